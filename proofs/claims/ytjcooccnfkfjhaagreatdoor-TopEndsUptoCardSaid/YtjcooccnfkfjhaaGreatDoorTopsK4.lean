/- A part of what Tops leans on: texts of this claim, one behind the other. No condition. -/
import Derived.Test.YtjcooccnfkfjhaaGreatDoorTopsK3
namespace Go.Proofs.YtjcooccnfkfjhaaGreatDoor
set_option linter.unusedVariables false
set_option linter.unusedSimpArgs false
open Go Go.RowKit
section
variable {P:Program} {ops:Array Oper} {md:Region.Mode} {Q:Exit→Act→World→Prop} {eff grow:Nat→Bool}
def la (P:Program) (md:Region.Mode) (ops:Array Oper) (Q:Exit→Act→World→Prop) (eff grow:Nat→Bool):Nat→Array Bool→Act→World→Prop
  | 0,listed,a,w=>Region.ready md ops listed=[]∧∀ w',Bel w w'→Q .normal a w'
  | f + 1,listed,a,w=>(Region.ready md ops listed=[]→∀ w',Bel w w'→Q .normal a w')∧∀ i∈Region.ready md ops listed,
      if eff i=true then (∀ w',Bel w w'→wpOp P ops Q i (fun a' w2=>(grow i=true→Bel w' w2)∧la P md ops Q eff grow f (listed.setIfInBounds i true) a' w2) a w')
      else qOp P ops (Bel w) i (fun a'=>la P md ops Q eff grow f (listed.setIfInBounds i true) a' w) a
theorem kW:∀ (f:Nat) (listed:Array Bool) (a:Act) (w:World),la P md ops Q eff grow f listed a w→dL P md ops Q eff f listed a w
  | 0,_,_,_,h=>h
  | f + 1,listed,a,w,h=>by
    refine ⟨h.1,fun i hi=>?_⟩
    have:=h.2 i hi
    by_cases he:eff i=true
    · rw [if_pos he] at this ⊢
      exact fun w' hb=>wpOp_mono (fun a' w2 h'=>kW f _ a' w2 h'.2) (this w' hb)
    · rw [if_neg he] at this ⊢
      exact qOp_mono (fun a' h'=>kW f _ a' w h') this
def cm (P:Program) (ops:Array Oper) (w0:World) (o:Oper) (v:Value) (a:Act):Prop:=
  (Region.wanted o (yielded ops a.tmps)=true∧∀ w,Bel w0 w→o.quietAt P a (Bel w) w v)∨(Region.wanted o (yielded ops a.tmps)=false∧v=undef)
theorem cm.later {w0 w1:World} {o:Oper} {v:Value} {a:Act} (h:cm P ops w0 o v a) (hb:Bel w0 w1):cm P ops w1 o v a:=
  h.imp (fun ⟨h1,h2⟩=>⟨h1,fun w hw=>h2 w (oB hb hw)⟩) id
theorem cm.inn {w0:World} {o:Oper} {v:Value} {a:Act} (h:cm P ops w0 o v a):YieldsIn P ops (Bel w0) o v a:=
  h.imp (fun ⟨h1,h2⟩=>⟨h1,fun w hw=>lh (fun w' hw'=>oB hw hw') (h2 w hw)⟩) id
theorem cm.of_same {w0:World} {o:Oper} {v:Value} {a a':Act} (hy:cm P ops w0 o v a) (he:execOp a'.eval o=execOp a.eval o)
    (hw:Region.wanted o (yielded ops a'.tmps)=Region.wanted o (yielded ops a.tmps)):cm P ops w0 o v a':=by
  unfold cm Oper.quietAt at *
  rw [he,hw]
  exact hy
theorem FU {C:World→Prop} {w0:World} {j:Nat} {oi oj:Oper} {v:Value} (hj:ops[j]?=some oj) (hap:oi.apart ops oj=true)
    (hsi:∀ cs b,oi.op≠.select cs b) (hsj:∀ cs b,oj.op≠.select cs b) {K:Act→Prop} {a:Act}
    (hy:cm P ops w0 oi v a) (h:qOp P ops C j K (a.put oi.dst v)) :
    qOp P ops C j (fun a'=>cm P ops w0 oi v a'∧K (a'.put oi.dst v)) a:=by
  obtain ⟨h1,h2,h3⟩:=Oper.apart_spec hap
  have keep:∀ (a:Act),cm P ops w0 oi v a→∀ u,cm P ops w0 oi v (a.put oj.dst u):=fun a hy u=>
    hy.of_same (execOp_put oi hsi a oj.dst u h3) (wanted_put oi a oj.dst u h3)
  unfold qOp at *
  simp only [hj] at *
  rw [wanted_put oj a oi.dst v h1] at h
  split
  · rename_i hw
    simp only [hw,if_true] at h
    obtain ⟨u,hu,hn⟩:=h
    refine ⟨u,fun w hw'=>?_,keep a hy u,by rw [←Act.put_comm a v u h2];exact hn⟩
    have:=hu w hw'
    unfold Oper.quietAt at *
    rwa [execOp_put oj hsj a oi.dst v h1] at this
  · rename_i hw
    simp only [hw] at h
    exact ⟨keep a hy _,by rw [←Act.put_comm a v undef h2];exact h⟩
theorem DT {w0:World} {j:Nat} {oi oj:Oper} {v:Value} (hj:ops[j]?=some oj) (hap:oi.apart ops oj=true)
    (hsi:∀ cs b,oi.op≠.select cs b) (hsj:∀ cs b,oj.op≠.select cs b)
    (hQ:∀ c a w,¬ Q (.panic c) a w) {K:Act→World→Prop} {a:Act} {w:World}
    (hy:cm P ops w0 oi v a) (h:wpOp P ops Q j K (a.put oi.dst v) w) :
    wpOp P ops Q j (fun a' w'=>cm P ops w0 oi v a'∧K (a'.put oi.dst v) w') a w:=by
  obtain ⟨h1,h2,h3⟩:=Oper.apart_spec hap
  have keep:∀ (a:Act),cm P ops w0 oi v a→∀ u,cm P ops w0 oi v (a.put oj.dst u):=fun a hy u=>
    hy.of_same (execOp_put oi hsi a oj.dst u h3) (wanted_put oi a oj.dst u h3)
  have keepD:∀ d,cm P ops w0 oi v { a with defers:=d::a.defers }:=fun d=>hy.of_same rfl rfl
  unfold wpOp at *
  simp only [hj] at *
  rw [wanted_put oj a oi.dst v h1] at h
  split
  · rename_i hw
    simp only [hw,if_true] at h
    rcases h with h | ⟨hasks,hlets⟩
    case inr=>exact .inr ⟨by unfold Oper.asks at *;rw [execOp_put oj hsj a oi.dst v h1] at hasks;exact hasks,hlets⟩
    refine .inl ?_
    unfold Oper.wp at *
    rw [execOp_put oj hsj a oi.dst v h1] at h
    generalize (execOp a.eval oj).run P w=r at *
    cases r with
    | ok n w'=>
      cases n<;>simp only [Oper.upon] at h ⊢
      case value u=>exact ⟨keep a hy u,by rw [←Act.put_comm a v u h2];exact h⟩
      case skip=>exact ⟨keep a hy _,by rw [←Act.put_comm a v undef h2];exact h⟩
      case defer d=>
        refine ⟨keep _ (keepD d) _,?_⟩
        rw [←Act.put_comm _ v undef h2,←Act.put_defers]
        exact h
      case enter f args=>
        refine Calls.mono h fun e w'' he=>?_
        cases e with
        | returned u=>exact ⟨keep a hy u,by rw [←Act.put_comm a v u h2];exact he⟩
        | panicked c=>exact (hQ _ _ _ he).elim
        | outgrown=>exact he
      case row row args=>exact Rows.mono h fun u w'' he=>⟨keep a hy u,by rw [←Act.put_comm a v u h2];exact he⟩
    | halt x w'=>
      cases x<;>simp only [Oper.upon] at h ⊢
      case panic u=>exact (hQ _ _ _ h).elim
  · rename_i hw
    simp only [hw] at h
    exact ⟨keep a hy _,by rw [←Act.put_comm a v undef h2];exact h⟩
theorem tx {listed:Array Bool} {j:Nat}:(listed.setIfInBounds j true).getD j true=true:=by
  rcases Nat.lt_or_ge j listed.size with h | h
  · simp [h]
  · simp [h]
theorem nP {i:Nat} {oi:Oper} {v:Value} {W:Nat→Bool} (hi:ops[i]?=some oi) (hsel:∀ (j:Nat) (o:Oper) cs b,ops[j]?=some o→o.op≠.select cs b) (hne:eff i=false) (hQ:∀ c a w,¬ Q (.panic c) a w) :
    ∀ (f:Nat) (listed:Array Bool) (a:Act) (w:World),
      (∀ j oj,ops[j]?=some oj→j≠i→listed.getD j true=false→(∀ e∈oj.after,Region.binds md e=true→e.on≠i)→oi.apart ops oj=true)→
      (∀ j oj,ops[j]?=some oj→eff j=true→listed.getD j true=false→W j=true∨grow j=true)→
      (∀ j oj,ops[j]?=some oj→W j=true→∃ e∈oj.after,Region.binds md e=true∧(e.on=i∨(W e.on=true∧listed.getD e.on true=false)))→
      i∈Region.ready md ops listed→cm P ops w oi v a→
      la P md ops Q eff grow f (listed.setIfInBounds i true) (a.put oi.dst v) w→la P md ops Q eff grow (f+1) listed a w:=by
  have key:∀ (listed:Array Bool),(∀ j oj,ops[j]?=some oj→W j=true→∃ e∈oj.after,Region.binds md e=true∧(e.on=i∨(W e.on=true∧listed.getD e.on true=false)))→
      i∈Region.ready md ops listed→∀ j,j∈Region.ready md ops listed→W j=false:=by
    intro listed hW hr j hj
    cases hwj:W j with
    | false=>rfl
    | true=>
      obtain ⟨_,oj,hoj,hall⟩:=mem_ready.1 hj
      obtain ⟨e,he,hb,h⟩:=hW j oj hoj hwj
      have h1:=hall e he hb
      have h0:listed.getD e.on true=false:=by
        rcases h with h | h
        · rw [h];exact (mem_ready.1 hr).1
        · exact h.2
      rw [iR h0] at h1
      cases h1
  intro f
  induction f with
  | zero=>
    intro listed a w _ hE hW hr hy H
    refine ⟨fun h=>(by rw [h] at hr;cases hr),fun j hj=>?_⟩
    by_cases hji:j=i
    · subst hji;rw [if_neg (by simp [hne])];exact hy.inn.qOp hi H
    · have:=ready_mono hj hji
      rw [H.1] at this
      cases this
  | succ f ih=>
    intro listed a w hfree hE hW hr hy H
    refine ⟨fun h=>(by rw [h] at hr;cases hr),fun j hj=>?_⟩
    by_cases hji:j=i
    · subst hji;rw [if_neg (by simp [hne])];exact hy.inn.qOp hi H
    · have hwj:=key listed hW hr j hj
      obtain ⟨hjun,oj,hoj,hall⟩:=mem_ready.1 hj
      have h1:=H.2 j (ready_mono hj hji)
      have hnot:∀ e∈oj.after,Region.binds md e=true→e.on≠i:=fun e he hb heq=>by
        have h1:=hall e he hb
        have h0:=(mem_ready.1 hr).1
        rw [heq,iR h0] at h1
        cases h1
      have hun:∀ k,k≠j→(listed.setIfInBounds j true).getD k true=listed.getD k true:=fun k hk=>getD_set_ne true (fun h=>hk h.symm)
      have hfree':∀ k ok,ops[k]?=some ok→k≠i→(listed.setIfInBounds j true).getD k true=false→
          (∀ e∈ok.after,Region.binds md e=true→e.on≠i)→oi.apart ops ok=true:=fun k ok hk hki hu hno=>by
        refine hfree k ok hk hki ?_ hno
        by_cases hjk:k=j
        · subst hjk;exact hjun
        · rw [hun k hjk] at hu;exact hu
      have hE':∀ k ok,ops[k]?=some ok→eff k=true→(listed.setIfInBounds j true).getD k true=false→W k=true∨grow k=true:=fun k ok hk he hu=>by
        by_cases hjk:k=j
        · subst hjk;rw [tx] at hu;cases hu
        · exact hE k ok hk he (by rw [←hun k hjk];exact hu)
      have hW':∀ k ok,ops[k]?=some ok→W k=true→∃ e∈ok.after,Region.binds md e=true∧(e.on=i∨(W e.on=true∧(listed.setIfInBounds j true).getD e.on true=false)):=fun k ok hk hw=>by
        obtain ⟨e,he,hb,h⟩:=hW k ok hk hw
        refine ⟨e,he,hb,?_⟩
        rcases h with h | ⟨h,h'⟩
        · exact .inl h
        · refine .inr ⟨h,?_⟩
          rw [hun e.on (fun e'=>by rw [e',hwj] at h;cases h)]
          exact h'
      have hap:=hfree j oj hoj hji hjun hnot
      cases he:eff j with
      | true=>
        have hg:grow j=true:=(hE j oj hoj he hjun).resolve_left (by rw [hwj];simp)
        rw [if_pos rfl]
        rw [he,if_pos rfl] at h1
        intro w' hb
        have h2:=DT hoj hap (fun cs b=>hsel i oi cs b hi) (fun cs b=>hsel j oj cs b hoj) hQ hy (h1 w' hb)
        refine wpOp_mono (fun a' w2 h3=>⟨h3.2.1,ih (listed.setIfInBounds j true) a' w2 hfree' hE' hW' (ready_mono hr (Ne.symm hji)) (cm.later h3.1 (oB hb (h3.2.1 hg))) ?_⟩) h2
        rw [Array.setIfInBounds_comm _ _ hji]
        exact h3.2.2
      | false=>
        rw [if_neg (by simp)]
        rw [he,if_neg (by simp)] at h1
        have h2:=FU hoj hap (fun cs b=>hsel i oi cs b hi) (fun cs b=>hsel j oj cs b hoj) hy h1
        refine qOp_mono (fun a' h3=>ih (listed.setIfInBounds j true) a' w hfree' hE' hW' (ready_mono hr (Ne.symm hji)) h3.1 ?_) h2
        rw [Array.setIfInBounds_comm _ _ hji]
        exact h3.2
def K5 (md:Region.Mode) (ops:Array Oper) (eff grow W:Nat→Bool) (listed:Array Bool) (i:Nat):Bool:=
  (List.range ops.size).all fun j=>(!(eff j&&unl listed j) || (W j || grow j)) &&
    (!W j || (match ops[j]? with | some oj=>oj.after.any fun e=>Region.binds md e&&(e.on == i || (W e.on&&unl listed e.on)) | none=>false))
theorem yR {W:Nat→Bool} {listed:Array Bool} {i:Nat} (h:K5 md ops eff grow W listed i=true) :
    (∀ j oj,ops[j]?=some oj→eff j=true→listed.getD j true=false→W j=true∨grow j=true)∧
    (∀ j oj,ops[j]?=some oj→W j=true→∃ e∈oj.after,Region.binds md e=true∧(e.on=i∨(W e.on=true∧listed.getD e.on true=false))):=by
  have hj:∀ j oj,ops[j]?=some oj→j∈List.range ops.size:=fun j oj ho=>List.mem_range.2 (Array.getElem?_eq_some_iff.1 ho).1
  refine ⟨fun j oj ho he hu=>?_,fun j oj ho hw=>?_⟩
  · have:=List.all_eq_true.1 h j (hj j oj ho)
    simp only [Bool.and_eq_true,Bool.or_eq_true,Bool.not_eq_true',he,unl,hu] at this
    simpa using this.1
  · have:=List.all_eq_true.1 h j (hj j oj ho)
    simp only [Bool.and_eq_true,Bool.or_eq_true,Bool.not_eq_true',ho,hw] at this
    have:=this.2
    simp only [Bool.true_eq_false,false_or,Array.any_eq_true',Bool.and_eq_true,Bool.or_eq_true,beq_iff_eq] at this
    obtain ⟨e,he,hb,h⟩:=this
    refine ⟨e,he,hb,?_⟩
    rcases h with h | ⟨h,h'⟩
    · exact .inl h
    · exact .inr ⟨h,by simpa [unl] using h'⟩
def jx:Op→Bool
  | .call { callee:=.value _,.. }=>false
  | .convert _ _ _=>false
  | o=>!mS o
def zt (T:TypeId→TI):Op→Bool
  | .alloc t=>!((T t).kind matches .other)
  | _=>false
def gr (ops:Array Oper) (k:Nat):Bool:=match ops[k]? with | some o=>jx o.op | none=>true
def mM (T:TypeId→TI) (ops:Array Oper) (k:Nat):Bool:=match ops[k]? with | some o=>zt T o.op | none=>false
def kH (T:TypeId→TI) (md:Region.Mode) (ops:Array Oper):List Nat→Array Bool→Bool
  | [],listed=>(Region.ready md ops listed).isEmpty
  | k :: ks,listed=>(bif gr ops k then decide (Region.ready md ops listed=[k])
      else (Region.ready md ops listed).contains k&&Region.free md ops listed k&&K5 md ops (gr ops) (mM T ops) (fun j=>(nG md ops listed k).getD j false) listed k) &&
    kH T md ops ks (listed.setIfInBounds k true)
def qq (ops:Array Oper):List Nat:=(List.range ops.size).filter (fun k=>!gr ops k)++(List.range ops.size).filter (gr ops)
def Cd (T:TypeId→TI) (ops:Array Oper):Bool:=Region.noSelect ops&&kH T .any ops (qq ops) (Array.replicate ops.size false)
def jI (l:List Oper):List Oper:=l.filter (fun o=>!jx o.op)++l.filter (fun o=>jx o.op)
end
section
variable {P:Program} {T:TypeId→TI} {E:Ent} {s:ASt} {ρ:List (Option (Nat×Nat))} {a:Act} {w:World}
def lu (P:Program) (T:TypeId→TI) (ops:Array Oper) (K:ASt→Prop):List Oper→ASt→Prop
  | [],s=>K s
  | o::r,s=>bif jx o.op then kX P T ops s o (lu P T ops K r) else fm P T ops s o (lu P T ops K r)
theorem CG (P:Program) (T:TypeId→TI) (ops:Array Oper) (K:ASt→Prop) (s:ASt):lu P T ops K [] s=K s:=rfl
theorem zh (P:Program) (T:TypeId→TI) (ops:Array Oper) (K:ASt→Prop) (o:Oper) (r:List Oper) (s:ASt):lu P T ops K (o::r) s=bif jx o.op then kX P T ops s o (lu P T ops K r) else fm P T ops s o (lu P T ops K r):=rfl
theorem H9 (w:World) (o:Obj):Bel w (pushB w o):=
  pM w o
theorem Cp (hT:an P T) {ops:Array Oper} {i:Nat} {o:Oper} (hi:ops[i]?=some o) (hg:zt T o.op=true) {Q:Exit→Act→World→Prop} {K:Act→World→Prop} (h:wpOp P ops Q i K a w) :
    wpOp P ops Q i (fun a' w2=>Bel w w2∧K a' w2) a w:=by
  unfold wpOp at *
  simp only [hi] at *
  split
  · rename_i hw
    simp only [hw,if_true] at h
    rcases h with h | h
    case inr=>exact .inr h
    refine .inl ?_
    obtain ⟨dst,op,ty,pos,after,guard⟩:=o
    simp only at hg
    cases op<;>simp only [zt] at hg<;>try cases hg
    rename_i t
    have hko:(T t).kind≠.other:=by intro e;rw [e] at hg;simp at hg
    obtain ⟨z,hz1,hz2,_⟩:=dZ (P:=P) hT hko
    have hrun:(Instr.alloc t true (.tuple #[])).run P w=.ok (.pointer (some ⟨w.heap.size,0,none⟩)) (pushB w (.cells z.cells t)):=by simp [Instr.alloc,hz1,newVar,newRow,pushB]
    unfold Oper.wp at *
    simp only [execOp,Sem.run_bind,hrun,Result.andThen_ok,Sem.run_pure,Oper.upon] at h ⊢
    exact ⟨H9 _ _,h⟩
  · rename_i hw
    simp only [hw] at h
    exact ⟨x8 _,h⟩
theorem kQ (hT:an P T) {ops:Array Oper} {Q:Exit→Act→World→Prop} {K:ASt→Prop} (hs:Region.noSelect ops=true) (hQ:∀ c a w,¬ Q (.panic c) a w) (hK:∀ s' ρ' a' w',K s'→Rep E s' ρ' a' w'→Q .normal a' w') :
    ∀ (l:List Oper) (ks:List Nat) (listed:Array Bool) (s:ASt) (ρ:List (Option (Nat×Nat))) (a:Act) (w:World),ks.map (fun k=>ops[k]?)=l.map some→kH T .any ops ks listed=true→
      lu P T ops K l s→Rep E s ρ a w→la P .any ops Q (gr ops) (mM T ops) l.length listed a w
  | [],ks,listed,s,ρ,a,w,hl,hB,h,hr=>by
    have:ks=[]:=by simpa using hl
    subst this
    exact ⟨by simpa [kH] using hB,fun w' hb=>hK _ _ _ _ h (hr.below hb)⟩
  | o::l,[],listed,s,ρ,a,w,hl,hB,h,hr=>by simp at hl
  | o :: l,k::ks,listed,s,ρ,a,w,hl,hB,h,hr=>by
    simp only [List.map_cons,List.cons.injEq] at hl
    obtain ⟨h0,hl'⟩:=hl
    simp only [List.length_cons,kH,Bool.and_eq_true] at hB
    obtain ⟨hB1,hB2⟩:=hB
    have he:gr ops k=jx o.op:=by simp [gr,h0]
    simp only [lu] at h
    cases hf:jx o.op with
    | true=>
      rw [he,hf] at hB1
      simp only [hf,cond_true] at h
      simp only [cond_true,decide_eq_true_eq] at hB1
      refine ⟨fun h1=>(by rw [hB1] at h1;cases h1),fun i hi=>?_⟩
      rw [hB1] at hi
      have hik:i=k:=by simpa using hi
      subst hik
      rw [if_pos (by rw [he,hf])]
      intro w' hb
      have base:wpOp P ops Q i (fun a' w2=>la P .any ops Q (gr ops) (mM T ops) l.length (listed.setIfInBounds i true) a' w2) a w':=by
        unfold wpOp
        simp only [h0]
        exact iC hT (hr.below hb) o h fun s' ρ' a' w2 hs' hr'=>kQ hT hs hQ hK l ks _ s' ρ' a' w2 hl' hB2 hs' hr'
      by_cases hg:mM T ops i=true
      · exact wpOp_mono (fun a' w2 h3=>⟨fun _=>h3.1,h3.2⟩) (Cp hT h0 (by simpa [mM,h0] using hg) base)
      · exact wpOp_mono (fun a' w2 h3=>⟨fun hg'=>absurd hg' hg,h3⟩) base
    | false=>
      rw [he,hf] at hB1
      simp only [hf,cond_false] at h
      simp only [cond_false,Bool.and_eq_true] at hB1
      obtain ⟨⟨hB3,hB4⟩,hB5⟩:=hB1
      have hq:=mo hT hr (ops:=ops) o (KK:=fun a'=>la P .any ops Q (gr ops) (mM T ops) l.length (listed.setIfInBounds k true) a' w) h
        fun s' a' hs' hr'=>kQ hT hs hQ hK l ks _ s' ρ a' w hl' hB2 hs' hr'
      obtain ⟨hW1,hW2⟩:=yR hB5
      by_cases hw:Region.wanted o (yielded ops a.tmps)=true
      · rw [if_pos hw] at hq
        obtain ⟨v,h1,h2⟩:=hq
        exact nP h0 (Region.noSelect_spec hs) (by rw [he,hf]) hQ l.length listed a w (Region.free_spec h0 hB4) hW1 hW2 (by simpa using hB3) (.inl ⟨hw,h1⟩) h2
      · rw [if_neg hw] at hq
        exact nP h0 (Region.noSelect_spec hs) (by rw [he,hf]) hQ l.length listed a w (Region.free_spec h0 hB4) hW1 hW2 (by simpa using hB3) (.inr ⟨by simpa using hw,rfl⟩) hq
theorem AWP.drawG {Q:Exit→ASt→Prop} {id:Nat} {l:List Oper} (hm:P.follows .mixedOrders=true) (hT:an P T) (hB:Cd T l.toArray=true)
    (h:∀ K:ASt→Prop,(∀ s',Q .normal s'→K s')→lu P T l.toArray K (jI l) s):AWP P (.region id l.toArray true) s Q:=fun E ρ a w hr=>by
  simp only [Cd,Bool.and_eq_true] at hB
  have e:∀ p:Oper→Bool,((List.range l.toArray.size).filter (fun k=>match l.toArray[k]? with | some x=>p x | none=>false)).map (fun k=>l.toArray[k]?)=(l.filter p).map some:=fun p=>by
    have:=mY p l l 0 fun j=>by simp
    rw [List.range_eq_range',List.size_toArray]
    exact this
  have e1:∀ k,k∈List.range l.toArray.size→(!gr l.toArray k)=(match l.toArray[k]? with | some x=>!jx x.op | none=>false):=fun k hk=>by
    have hk':k < l.length:=by simpa using hk
    simp [gr,hk']
  have e2:∀ k,k∈List.range l.toArray.size→gr l.toArray k=(match l.toArray[k]? with | some x=>jx x.op | none=>false):=fun k hk=>by
    have hk':k < l.length:=by simpa using hk
    simp [gr,hk']
  have hks:(qq l.toArray).map (fun k=>l.toArray[k]?)=(jI l).map some:=by
    rw [qq,jI,List.map_append,List.map_append,List.filter_congr e1,List.filter_congr e2,e,e]
  have hl:(jI l).length=l.length:=by
    rw [jI,List.length_append,←List.countP_eq_length_filter,←List.countP_eq_length_filter,Nat.add_comm]
    have:=List.length_eq_countP_add_countP (fun o:Oper=>jx o.op) (l:=l)
    simpa using this.symm
  refine wpm (wp_region_any (Q:=fun e a' w'=>(∀ c,e≠.panic c)∧∃ s' ρ',Rep E s' ρ' a' w'∧Q e s') hm (hZ (eff:=gr l.toArray) _ _ a w _ (kW (grow:=mM T l.toArray) _ _ _ _ ?_) ⟨rfl,rfl,rfl,Nat.le_refl _,fun _ _=>rfl⟩)) fun _ _ _ h=>h.2
  have:=kQ (E:=E) hT (Q:=fun e a' w'=>(∀ c,e≠.panic c)∧∃ s' ρ',Rep E s' ρ' a' w'∧Q e s') hB.1 (fun c a w h=>h.1 c rfl) (fun s' ρ' a' w' hs hr'=>⟨by simp,s',ρ',hr',hs⟩) (jI l) (qq l.toArray) (Array.replicate l.toArray.size false) s ρ a w hks hB.2
    (h _ fun _ hq=>hq) hr
  simpa [hl] using this
end
section
variable {P:Program} {T:TypeId→TI} {E:Ent} {s:ASt} {ρ ρ':List (Option (Nat×Nat))} {a:Act} {w w':World} {hp:List ABlk}
/-! ### A function's end -/
def qV (T:TypeId→TI) (s:ASt):ResultVar→PR
  | .tmp t=>⟨cI (bR s.env t),ai (bR s.env t)⟩
  | .cell t ty=>g1 (bR s.env t) (tB (T ty) s.hp)
def aS (T:TypeId→TI) (s:ASt):List ResultVar→Prop×List AV
  | []=>(True,[])
  | r::l=>((qV T s r).ok∧(aS T s l).1,(qV T s r).v::(aS T s l).2)
def cQ:List AV→AV
  | [x]=>x
  | l=>.tup l
def ag (np:Nat) (hp:List ABlk) (v:AV) (R:AV→List ABlk→Prop):Prop:=
  ∀ (E:Ent) (ρ:List (Option (Nat×Nat))) (w:World) (u:Value),E.ρ0.length=np→RepH E ρ hp w→(∀ (k:Nat) (p:Option (Nat×Nat)),E.ρ0[k]?=some p→ρ[k]?=some p)→RepV ρ (okB E ρ hp w) w v u→
    ∃ v' hp' ρ',R v' hp'∧RepH E ρ' hp' w∧(∀ (k:Nat) (p:Option (Nat×Nat)),E.ρ0[k]?=some p→ρ'[k]?=some p)∧RepV ρ' (okB E ρ' hp' w) w v' u
def mJ (T:TypeId→TI) (rs:List ResultVar) (R:AV→List ABlk→Prop):Exit→ASt→Prop
  | .ret,s=>(aS T s rs).1∧ag s.np s.hp (cQ (aS T s rs).2) R
  | .normal,s=>(aS T s rs).1∧ag s.np s.hp (cQ (aS T s rs).2) R
  | _,_=>False
def mD (tmps:Array Value) (r:ResultVar):Sem Value:=
  match r with
  | .tmp t=>pure (tmps.getD t undef)
  | .cell a t=>do loadVar t (←asAddr (tmps.getD a undef))
theorem sh (fn:Func) (tmps:Array Value):results fn tmps=(fn.results.mapM (mD tmps) >>= fun vs=>pure (if h:vs.size=1 then vs[0] else .tuple vs)):=by
  unfold results
  congr 1
theorem xX (hT:an P T) (h:Rep E s ρ a w) (r:ResultVar) (hk:(qV T s r).ok) :
    ∃ u,RepV ρ (okB E ρ s.hp w) w (qV T s r).v u∧(mD a.tmps r).run P w=.ok u w:=by
  cases r with
  | tmp t=>exact ⟨_,ah (h.env t) hk,by simp only [mD,Sem.run_pure]⟩
  | cell x ty=>
    obtain ⟨hg,hk⟩:=hk
    obtain ⟨u,h1,h2⟩:=ui (P:=P) hT h.lt h.heap.blks ty _ _ (ah (h.env x) hg) hk
    have h3:=h2 w (gZ w)
    refine ⟨u,h1,?_⟩
    generalize hq:a.tmps.getD x undef=q at *
    have:∃ ad,q=.pointer (some ad):=by
      clear hq
      cases q with
      | pointer p=>
        cases p with
        | some ad=>exact ⟨ad,rfl⟩
        | none=>simp [Instr.loadAt,Instr.sureAddr] at h3
      | _=>simp [Instr.loadAt,Instr.sureAddr] at h3
    obtain ⟨ad,rfl⟩:=this
    simp [Instr.loadAt,Instr.sureAddr] at h3
    simp only [mD,hq,asAddr,Sem.run_bind,Sem.run_pure,Result.andThen_ok]
    exact h3
theorem pG (hT:an P T) (h:Rep E s ρ a w):∀ (rs:List ResultVar),(aS T s rs).1→∃ us:List Value,us.length=rs.length∧ga ρ (okB E ρ s.hp w) w (aS T s rs).2 us∧
    (rs.mapM (mD a.tmps)).run P w=.ok us w
  | [],_=>⟨[],rfl,⟨rfl,by simp⟩,by simp⟩
  | r :: l,hk=>by
    obtain ⟨u,h1,h2⟩:=xX hT h r hk.1
    obtain ⟨us,h3,h4,h5⟩:=pG hT h l hk.2
    refine ⟨u::us,by simp [h3],⟨by simp [aS,h4.1],fun j x v hx hv=>?_⟩,?_⟩
    · match j with
      | 0=>simp [aS] at hx hv;subst hx;subst hv;exact h1
      | j+1=>exact h4.2 j x v (by simpa [aS] using hx) (by simpa using hv)
    · rw [List.mapM_cons,Sem.run_bind,h2,Result.andThen_ok,Sem.run_bind,h5,Result.andThen_ok]
      rfl
theorem tq (hT:an P T) (h:Rep E s ρ a w) (fn:Func) (hk:(aS T s fn.results.toList).1) :
    ∃ u,RepV ρ (okB E ρ s.hp w) w (cQ (aS T s fn.results.toList).2) u∧(results fn a.tmps).run P w=.ok u w:=by
  obtain ⟨us,h1,h2,h3⟩:=pG hT h fn.results.toList hk
  have hm:(fn.results.mapM (mD a.tmps)).run P w=.ok us.toArray w:=by
    rw [Array.mapM_eq_mapM_toList,Sem.run_map,h3,Result.andThen_ok]
  have hrun:(results fn a.tmps).run P w=.ok (if h:us.toArray.size=1 then us.toArray[0] else .tuple us.toArray) w:=by
    rw [sh,Sem.run_bind,hm,Result.andThen_ok]
    rfl
  by_cases hl:us.length=1
  · match us,hl,h2,hrun with
    | [u],_,h2,hrun=>
      have:∃ x,(aS T s fn.results.toList).2=[x]:=by
        match hx:(aS T s fn.results.toList).2,h2.1 with
        | [x],_=>exact ⟨x,rfl⟩
      obtain ⟨x,hx⟩:=this
      rw [hx] at h2
      refine ⟨u,?_,by simpa using hrun⟩
      rw [hx]
      exact h2.2 0 x u rfl rfl
  · refine ⟨.tuple us.toArray,?_,?_⟩
    · have:cQ (aS T s fn.results.toList).2=.tup (aS T s fn.results.toList).2:=by
        have hll:=h2.1
        cases hx:(aS T s fn.results.toList).2 with
        | nil=>rfl
        | cons x r=>
          cases r with
          | nil=>rw [hx] at hll;exact absurd hll hl
          | cons y r=>rfl
      rw [this]
      exact .tup _ _ h2.1 h2.2
    · rw [hrun]
      have:¬ (us.toArray.size=1):=by simpa using hl
      rw [dif_neg this]
def gl:Nat→List AV→List (Nat×AV)
  | _,[]=>[]
  | k,x::r=>(k,x)::gl (k+1) r
theorem wV:∀ (xs:List AV) (k t:Nat),bR (gl k xs) t=if k≤t∧t < k+xs.length then xs.getD (t - k) .any else .any
  | [],k,t=>by simp [gl,bR]
  | x :: r,k,t=>by
    simp only [gl,bR]
    by_cases h:k=t
    · subst h;simp
    · rw [if_neg h,wV r (k+1) t]
      by_cases h2:k+1≤t∧t < k+1+r.length
      · rw [if_pos h2,if_pos (by simp;omega),show t - k=(t - (k+1))+1 from by omega]
        simp
      · rw [if_neg h2,if_neg (by simp;omega)]
theorem cr (hT : an P T) {g : FuncId} {fn : Func} {c : Code} (hf : P.funcs[g]? = some fn) (hb : fn.body = some c) (hn : (fn.name == "runtime.NumGoroutine") = false)
    {hp:List ABlk} {xs:List AV} {R:AV→List ABlk→Prop} (hx:xs.length≤fn.ntmps)
    (h:AWP P c { np:=hp.length,nt:=fn.ntmps,env:=gl 0 xs,hp:=hp } (mJ T fn.results.toList R)):ab P hp g xs R:=by
  refine ⟨⟨fn,hf,hn,by rw [hb];rfl⟩,fun E w us hw hH hus=>?_⟩
  have hnp:E.ρ0.length=hp.length:=hH.len
  refine calls_of_wp hf hb (wpm (h E E.ρ0 _ w ⟨hnp,rfl,?_,fun t=>?_,hH,fun _ _ hk=>hk⟩) fun e a' w' hh=>?_)
  · simp [hus.1];omega
  · rw [wV]
    by_cases ht:0≤t∧t < 0+xs.length
    · rw [if_pos ht]
      have hlt:t < xs.length:=by omega
      have:(us.toArray++Array.replicate (fn.ntmps - us.toArray.size) undef).getD t undef=us.getD t undef:=by
        rw [Array.getD_eq_getD_getElem?,Array.getElem?_append_left (by simp [hus.1,hlt])]
        simp [List.getD_eq_getElem?_getD]
      rw [this,Nat.sub_zero]
      exact hus.2 t _ _ (cK _ _ _ hlt) (cK _ _ _ (by rw [hus.1];exact hlt))
    · rw [if_neg ht];exact .any _
  · obtain ⟨s',ρ',hr,hq⟩:=hh
    have fin:(aS T s' fn.results.toList).1∧ag s'.np s'.hp (cQ (aS T s' fn.results.toList).2) R→a'.defers=[]∧∃ v,(results fn a'.tmps).run P w'=.ok v w'∧
        ∃ u v_1 hp' ρ',Ending.returned v=.returned u∧R v_1 hp'∧RepH E ρ' hp' w'∧(∀ (k:Nat) (p:Option (Nat×Nat)),E.ρ0[k]?=some p→ρ'[k]?=some p)∧RepV ρ' (okB E ρ' hp' w') w' v_1 u:=by
      intro ⟨h1,h2⟩
      obtain ⟨u,hu,hrun⟩:=tq hT hr fn h1
      obtain ⟨v',hp',ρ2,q1,q2,q3,q4⟩:=h2 E ρ' w' u hr.np hr.heap hr.pre hu
      exact ⟨hr.nodef,u,hrun,u,v',hp',ρ2,rfl,q1,q2,q3,q4⟩
    cases e with
    | ret=>exact fin hq
    | normal=>exact fin hq
    | _=>exact hq.elim
theorem ag.data {hp:List ABlk} {v:AV} {R:AV→List ABlk→Prop} (hf:bJ hp v) (hn:bV (aZ hp v)) (hR:R (aZ hp v) []):ag 0 hp v R:=by
  intro E ρ w u hnp hH hpre hv
  have h0:E.ρ0=[]:=List.eq_nil_of_length_eq_zero hnp
  have hnl:∀ b,¬ eI [] [] b:=fun b ⟨k,x,m,hx,_⟩=>by simp at hx
  have hok:∀ b,okB E ρ hp w b→okB E [] [] w b:=fun b ⟨h1,h2,_⟩=>⟨h1,h2,hnl b⟩
  have key:∀ (k b m sz:Nat) (rs:List (List DV)),hp[k]?=some (.rows sz rs)→ρ[k]?=some (some (b,m))→okB E [] [] w b:=by
    intro k b m sz rs hk hb
    obtain ⟨q1,us,ty,fz,q2,_⟩:=hH.blk k _ b m hk hb (by simp)
    rcases q1 with q1 | q1
    · obtain ⟨k',m',hk'⟩:=E.hL b q1
      rw [h0] at hk';simp at hk'
    · exact ⟨.inr q1,aJ q2,hnl b⟩
  refine ⟨aZ hp v,[],[],hR,⟨rfl,by simp,by simp,by simp,hH.fr⟩,by simp [h0],?_⟩
  exact Gx hH.blks hok key hv hf hn
/-! ### Renaming of blocks -/
mutual
def renV (f:Nat→Nat):AV→AV
  | .ptr k off=>.ptr (f k) off
  | .rp k sz i off=>.rp (f k) sz i off
  | .osl k sz off n=>.osl (f k) sz off n
  | .agg cs=>.agg (renL f cs)
  | .tup cs=>.tup (renL f cs)
  | .clo g a b=>.clo g (renL f a) (renL f b)
  | .gd g v=>.gd g (renV f v)
  | .mp k=>.mp (f k)
  | .d x=>.d x
  | .dp row off=>.dp row off
  | .any=>.any
def renL (f:Nat→Nat):List AV→List AV
  | []=>[]
  | x::r=>renV f x::renL f r
end
def renB (f:Nat→Nat):ABlk→ABlk
  | .cells cs=>.cells (renL f cs)
  | .rows sz rs=>.rows sz rs
  | .full sz rs=>.full sz rs
  | .bytes l=>.bytes l
  | .map es=>.map es
  | .iter k a b c=>.iter (f k) a b c
  | .dead=>.dead
mutual
def inV (n:Nat):AV→Prop
  | .ptr k _=>k < n
  | .rp k _ _ _=>k < n
  | .osl k _ _ _=>k < n
  | .agg cs=>inL n cs
  | .tup cs=>inL n cs
  | .clo _ a b=>inL n a∧inL n b
  | .gd _ v=>inV n v
  | .mp k=>k < n
  | _=>True
def inL (n:Nat):List AV→Prop
  | []=>True
  | x::r=>inV n x∧inL n r
end
def inB (n:Nat):ABlk→Prop
  | .cells cs=>inL n cs
  | .iter k _ _ _=>k < n
  | _=>True
theorem dG {f:Nat→Nat}:∀ {cs:List AV} {j:Nat},(renL f cs)[j]?=(cs[j]?).map (renV f)
  | [],j=>by simp [renL]
  | x::r,0=>by simp [renL]
  | x::r,j+1=>by simp only [renL,List.getElem?_cons_succ];exact dG
theorem cc {f:Nat→Nat}:∀ {cs:List AV},(renL f cs).length=cs.length
  | []=>rfl
  | x::r=>by simp [renL,cc (cs:=r)]
theorem jQ {n:Nat}:∀ {cs:List AV} {j:Nat} {x:AV},inL n cs→cs[j]?=some x→inV n x
  | y::r,0,x,h,hx=>by simp at hx;subst hx;exact h.1
  | y::r,j+1,x,h,hx=>jQ h.2 (by simpa using hx)
theorem Iy {ok ok':Nat→Prop} {f:Nat→Nat} (hρ:∀ (k:Nat) (p:Option (Nat×Nat)),ρ[k]?=some p→ρ'[f k]?=some p) (hok:∀ b,ok b→ok' b∧w'.heap[b]?=w.heap[b]?)
    {v:AV} {u:Value} (h:RepV ρ ok w v u):RepV ρ' ok' w' (renV f v) u:=by
  induction h with
  | d x v h=>simp only [renV];exact .d _ _ (h.mono hok)
  | agg cs us hl h1 hr ih=>
    simp only [renV]
    refine .agg _ _ (by rw [cc];exact hl) h1 fun j c u hc hu=>?_
    rw [dG] at hc
    obtain ⟨x,hx,rfl⟩:=Option.map_eq_some_iff.1 hc
    exact ih j x u hx hu
  | tup cs us hl hr ih=>
    simp only [renV]
    refine .tup _ _ (by rw [cc];exact hl) fun j c u hc hu=>?_
    rw [dG] at hc
    obtain ⟨x,hx,rfl⟩:=Option.map_eq_some_iff.1 hc
    exact ih j x u hx hu
  | ptr k off b m h=>simp only [renV];exact .ptr _ _ b m (hρ _ _ h)
  | rp k sz i off b m h=>simp only [renV];exact .rp _ _ _ _ b m (hρ _ _ h)
  | osl k sz off n b m cap h hm hn=>simp only [renV];exact .osl _ _ _ _ b m cap (hρ _ _ h) hm hn
  | oslnil k sz A h=>simp only [renV];exact .oslnil _ _ A (hρ _ _ h)
  | dp row off b o u hb hc hr=>
    simp only [renV]
    exact .dp row off b o u (hok b hb).1 (fun j c hj=>(bt (hok b hb).2).trans (hc j c hj)) fun j c hj=>(hr j c hj).mono hok
  | clo g first caps us vs hl hl' hr hr' ih ih'=>
    simp only [renV]
    refine .clo _ _ _ us vs (by rw [cc];exact hl) (by rw [cc];exact hl') (fun j c u hc hu=>?_) fun j c u hc hu=>?_
    · rw [dG] at hc
      obtain ⟨x,hx,rfl⟩:=Option.map_eq_some_iff.1 hc
      exact ih j x u hx hu
    · rw [dG] at hc
      obtain ⟨x,hx,rfl⟩:=Option.map_eq_some_iff.1 hc
      exact ih' j x u hx hu
  | mp k b m h=>simp only [renV];exact .mp _ b m (hρ _ _ h)
  | gd g v u ht hf ih=>simp only [renV];exact .gd _ _ _ ih hf
  | any u=>simp only [renV];exact .any u
theorem rh {ok ok':Nat→Prop} {f:Nat→Nat} {n:Nat} (hρ:∀ (k:Nat) (p:Option (Nat×Nat)),k < n→ρ[f k]?=some p→ρ'[k]?=some p) (hok:∀ b,ok b→ok' b∧w'.heap[b]?=w.heap[b]?)
    {x:AV} {u:Value} (h:RepV ρ ok w x u):∀ (v:AV),x=renV f v→inV n v→RepV ρ' ok' w' v u:=by
  induction h with
  | d x u h=>intro v e hi;cases v<;>simp [renV] at e;subst e;exact .d _ _ (h.mono hok)
  | agg cs us hl h1 hr ih=>
    intro v e hi
    cases v<;>simp [renV] at e
    subst e
    simp only [inV] at hi
    refine .agg _ _ (by rw [cc] at hl;exact hl) h1 fun j c u hc hu=>?_
    exact ih j (renV f c) u (by rw [dG,hc];rfl) hu c rfl (jQ hi hc)
  | tup cs us hl hr ih=>
    intro v e hi
    cases v<;>simp [renV] at e
    subst e
    simp only [inV] at hi
    refine .tup _ _ (by rw [cc] at hl;exact hl) fun j c u hc hu=>?_
    exact ih j (renV f c) u (by rw [dG,hc];rfl) hu c rfl (jQ hi hc)
  | ptr k off b m h=>intro v e hi;cases v<;>simp [renV] at e;obtain ⟨rfl,rfl⟩:=e;exact .ptr _ _ b m (hρ _ _ hi h)
  | rp k sz i off b m h=>intro v e hi;cases v<;>simp [renV] at e;obtain ⟨rfl,rfl,rfl,rfl⟩:=e;exact .rp _ _ _ _ b m (hρ _ _ hi h)
  | osl k sz off n b m cap h hm hn=>intro v e hi;cases v<;>simp [renV] at e;obtain ⟨rfl,rfl,rfl,rfl⟩:=e;exact .osl _ _ _ _ b m cap (hρ _ _ hi h) hm hn
  | oslnil k sz A h=>intro v e hi;cases v<;>simp [renV] at e;obtain ⟨rfl,rfl,rfl,rfl⟩:=e;exact .oslnil _ _ A (hρ _ _ hi h)
  | dp row off b o u hb hc hr=>
    intro v e hi
    cases v<;>simp [renV] at e
    obtain ⟨rfl,rfl⟩:=e
    exact .dp row off b o u (hok b hb).1 (fun j c hj=>(bt (hok b hb).2).trans (hc j c hj)) fun j c hj=>(hr j c hj).mono hok
  | clo g first caps us vs hl hl' hr hr' ih ih'=>
    intro v e hi
    cases v<;>simp [renV] at e
    obtain ⟨rfl,rfl,rfl⟩:=e
    simp only [inV] at hi
    rw [cc] at hl hl'
    refine .clo _ _ _ us vs hl hl' (fun j c u hc hu=>?_) fun j c u hc hu=>?_
    · exact ih j (renV f c) u (by rw [dG,hc];rfl) hu c rfl (jQ hi.1 hc)
    · exact ih' j (renV f c) u (by rw [dG,hc];rfl) hu c rfl (jQ hi.2 hc)
  | mp k b m h=>intro v e hi;cases v<;>simp [renV] at e;subst e;exact .mp _ b m (hρ _ _ hi h)
  | gd g v u ht hf ih=>
    intro v' e hi
    cases v'<;>simp [renV] at e
    obtain ⟨rfl,rfl⟩:=e
    exact .gd _ _ _ (fun hg=>ih hg _ rfl hi) hf
  | any u=>intro v e hi;cases v<;>simp [renV] at e;exact .any u
/-! ### What may be forgotten of a state, and its blocks named anew -/
def mAt (m:List Nat) (big k:Nat):Nat:=(m[k]?).getD big
def ot (f:Nat→Nat) (n:Nat) (env:List (Nat×AV)):List (Nat×AV)→Prop
  | []=>True
  | (t,v)::r=>(bR env t=renV f v∧inV n v)∧ot f n env r
def ls (f:Nat→Nat) (n:Nat) (hp:List ABlk):Nat→List ABlk→Prop
  | _,[]=>True
  | i,x::r=>(x=.dead∨(hp[f i]?=some (renB f x)∧inB n x))∧ls f n hp (i+1) r
theorem uT {f:Nat→Nat} {n:Nat} {env:List (Nat×AV)}:∀ {env':List (Nat×AV)},ot f n env env'→∀ t,bR env' t=.any∨(bR env t=renV f (bR env' t)∧inV n (bR env' t))
  | [],_,t=>.inl rfl
  | (k,v)::r,h,t=>by
    simp only [bR]
    split
    · rename_i e;subst e;exact .inr h.1
    · exact uT h.2 t
theorem rG {f:Nat→Nat} {n:Nat} {hp:List ABlk}:∀ {hp':List ABlk} {i:Nat},ls f n hp i hp'→∀ (j:Nat) (x:ABlk),hp'[j]?=some x→x=.dead∨(hp[f (i+j)]?=some (renB f x)∧inB n x)
  | [],i,_,j,x,hx=>by simp at hx
  | y::r,i,h,0,x,hx=>by simp at hx;subst hx;exact h.1
  | y::r,i,h,j+1,x,hx=>by
    have:=rG (i:=i+1) h.2 j x (by simpa using hx)
    rwa [show i+1+j=i+(j+1) from by omega] at this
theorem tZ {f:Nat→Nat} {x:ABlk} {us:Array Value} {fz:Nat×Nat}:plain (renB f x) us fz↔plain x us fz:=by
  cases x<;>simp [plain,renB]
theorem wW {f:Nat→Nat} {x:ABlk}:(renB f x).isObj=x.isObj:=by cases x<;>rfl
theorem cH {f:Nat→Nat} {x:ABlk} (h:x≠.dead):renB f x≠.dead:=by cases x<;>simp_all [renB]
theorem Fn {ok ok':Nat→Prop} {f:Nat→Nat} {n:Nat} (hρ:∀ (k:Nat) (p:Option (Nat×Nat)),k < n→ρ[f k]?=some p→ρ'[k]?=some p) (hok:∀ b,ok b→ok' b∧w'.heap[b]?=w.heap[b]?)
    {us:Array Value} {x:ABlk} (h:dr ρ ok w us (renB f x)) (hi:inB n x):dr ρ' ok' w' us x:=by
  refine ⟨h.1,?_⟩
  cases x with
  | cells cs=>
    obtain ⟨_,h1,h2⟩:=h
    rw [cc] at h1
    exact ⟨h1,fun j c u hc hu=>rh hρ hok (h2 j (renV f c) u (by rw [dG,hc];rfl) hu) c rfl (jQ hi hc)⟩
  | rows sz rs=>
    obtain ⟨_,h1,h2,h3⟩:=h
    exact ⟨h1,h2,fun i r hi j c u hc hu=>(h3 i r hi j c u hc hu).mono hok⟩
  | full sz rs=>
    obtain ⟨_,h1,h2,h3⟩:=h
    exact ⟨h1,h2,fun i r hi j c u hc hu=>(h3 i r hi j c u hc hu).mono hok⟩
  | bytes l=>
    obtain ⟨_,h1,h2,h3⟩:=h
    exact ⟨h1,h2,fun i r hi j c u hc hu=>(h3 i r hi j c u hc hu).mono hok⟩
  | map es=>trivial
  | iter k a b c=>trivial
  | dead=>trivial
theorem LP {ok ok':Nat→Prop} {f:Nat→Nat} (hρ:∀ (k:Nat) (p:Option (Nat×Nat)),ρ[k]?=some p→ρ'[f k]?=some p) (hok:∀ b,ok b→ok' b∧w'.heap[b]?=w.heap[b]?)
    {us:Array Value} {x:ABlk} (h:dr ρ ok w us x):dr ρ' ok' w' us (renB f x):=by
  refine ⟨h.1,?_⟩
  cases x with
  | cells cs=>
    obtain ⟨_,h1,h2⟩:=h
    refine ⟨by rw [cc];exact h1,fun j c u hc hu=>?_⟩
    rw [dG] at hc
    obtain ⟨y,hy,rfl⟩:=Option.map_eq_some_iff.1 hc
    exact Iy hρ hok (h2 j y u hy hu)
  | rows sz rs=>
    obtain ⟨_,h1,h2,h3⟩:=h
    exact ⟨h1,h2,fun i r hi j c u hc hu=>(h3 i r hi j c u hc hu).mono hok⟩
  | full sz rs=>
    obtain ⟨_,h1,h2,h3⟩:=h
    exact ⟨h1,h2,fun i r hi j c u hc hu=>(h3 i r hi j c u hc hu).mono hok⟩
  | bytes l=>
    obtain ⟨_,h1,h2,h3⟩:=h
    exact ⟨h1,h2,fun i r hi j c u hc hu=>(h3 i r hi j c u hc hu).mono hok⟩
  | map es=>trivial
  | iter k a b c=>trivial
  | dead=>trivial
theorem xn {ok ok':Nat→Prop} {f:Nat→Nat} {n m:Nat} {o:Obj} (hρ:∀ (k:Nat) (p:Option (Nat×Nat)),k < n→ρ[f k]?=some p→ρ'[k]?=some p) (hok:∀ b,ok b→ok' b∧w'.heap[b]?=w.heap[b]?)
    {x:ABlk} (h:cS ρ ok w m o (renB f x)) (hi:inB n x):cS ρ' ok' w' m o x:=by
  by_cases hm:x.isObj=false
  · obtain ⟨us,ty,fz,h1,h2,h3,h4⟩:=(cS.cells (by rw [wW];exact hm)).1 h
    exact (cS.cells hm).2 ⟨us,ty,fz,h1,h2,⟨h3.1,tZ.1 h3.2⟩,Fn hρ hok h4 hi⟩
  · cases x with
    | map es=>exact h
    | iter k a b c=>obtain ⟨b',m',h1,h2⟩:=h;exact ⟨b',m',hρ _ _ hi h1,h2⟩
    | _=>simp at hm
theorem Lq {ok ok':Nat→Prop} {f:Nat→Nat} {m:Nat} {o:Obj} (hρ:∀ (k:Nat) (p:Option (Nat×Nat)),ρ[k]?=some p→ρ'[f k]?=some p) (hok:∀ b,ok b→ok' b∧w'.heap[b]?=w.heap[b]?)
    {x:ABlk} (h:cS ρ ok w m o x):cS ρ' ok' w' m o (renB f x):=by
  by_cases hm:x.isObj=false
  · obtain ⟨us,ty,fz,h1,h2,h3,h4⟩:=(cS.cells hm).1 h
    exact (cS.cells (by rw [wW];exact hm)).2 ⟨us,ty,fz,h1,h2,⟨h3.1,tZ.2 h3.2⟩,LP hρ hok h4⟩
  · cases x with
    | map es=>exact h
    | iter k a b c=>obtain ⟨b',m',h1,h2⟩:=h;exact ⟨b',m',hρ _ _ h1,h2⟩
    | _=>simp at hm
theorem aF.frame (m:List Nat) {np nt:Nat} {env env':List (Nat×AV)} {hp hp':List ABlk} (hl:hp'.length=m.length) (hm:∀ i,i∈m→i < hp.length) (hinj:m.Nodup) (hpre:∀ k,k < np→m[k]?=some k)
    (he:ot (mAt m hp.length) m.length env env') (hh:ls (mAt m hp.length) m.length hp 0 hp') :
    aF { np:=np,nt:=nt,env:=env,hp:=hp } { np:=np,nt:=nt,env:=env',hp:=hp' }:=by
  intro E ρ a w h
  have hlen:=h.heap.len
  simp only at hlen
  have hmi:∀ (i j x:Nat),m[i]?=some x→m[j]?=some x→i=j:=by
    intro i j x hi hj
    obtain ⟨hi1,hi2⟩:=List.getElem?_eq_some_iff.1 hi
    obtain ⟨hj1,hj2⟩:=List.getElem?_eq_some_iff.1 hj
    have hpw:=List.pairwise_iff_getElem.1 hinj
    rcases Nat.lt_trichotomy i j with hlt | heq | hgt
    · exact absurd (hi2.trans hj2.symm) (hpw i j hi1 hj1 hlt)
    · exact heq
    · exact absurd (hj2.trans hi2.symm) (hpw j i hj1 hi1 hgt)
  have hget:∀ i,i < m.length→∃ x,m[i]?=some x∧mAt m hp.length i=x∧x < ρ.length:=by
    intro i hi
    refine ⟨m[i],List.getElem?_eq_getElem hi,by simp [mAt,List.getElem?_eq_getElem hi],?_⟩
    rw [hlen];exact hm _ (List.getElem_mem hi)
  let ρ':List (Option (Nat×Nat)):=m.map fun i=>(ρ[i]?).getD none
  have hρ':∀ (k:Nat) (p:Option (Nat×Nat)),ρ'[k]?=some p↔∃ x,m[k]?=some x∧ρ[x]?=some p:=by
    intro k p
    simp only [ρ',List.getElem?_map,Option.map_eq_some_iff]
    constructor
    · rintro ⟨x,hx,e⟩
      have hxl:x < ρ.length:=by rw [hlen];exact hm x (List.mem_of_getElem? hx)
      rw [List.getElem?_eq_getElem hxl] at e
      exact ⟨x,hx,by rw [List.getElem?_eq_getElem hxl];simpa using e⟩
    · rintro ⟨x,hx,e⟩
      exact ⟨x,hx,by rw [e];rfl⟩
  have hdown:∀ (k:Nat) (p:Option (Nat×Nat)),k < m.length→ρ[mAt m hp.length k]?=some p→ρ'[k]?=some p:=by
    intro k p hk hp'
    obtain ⟨x,hx,e,_⟩:=hget k hk
    rw [e] at hp'
    exact (hρ' k p).2 ⟨x,hx,hp'⟩
  have hblk:∀ (j:Nat) (x:ABlk) (p:Option (Nat×Nat)),hp'[j]?=some x→x≠.dead→ρ'[j]?=some p→∃ i,m[j]?=some i∧mAt m hp.length j=i∧hp[i]?=some (renB (mAt m hp.length) x)∧inB m.length x∧ρ[i]?=some p:=by
    intro j x p hx hd hpj
    rcases rG hh j x hx with e | ⟨h1,h2⟩
    · exact absurd e hd
    · rw [Nat.zero_add] at h1
      obtain ⟨i,hi,hip⟩:=(hρ' j p).1 hpj
      have:mAt m hp.length j=i:=by simp [mAt,hi]
      rw [this] at h1
      exact ⟨i,hi,this,by rw [this] at *;exact h1,h2,hip⟩
  have hlive:∀ b,eI ρ' hp' b→eI ρ hp b:=by
    intro b ⟨k,x,q,hx,hd,hk⟩
    obtain ⟨i,_,_,h1,_,h2⟩:=hblk k x _ hx hd hk
    exact ⟨i,_,q,h1,cH hd,h2⟩
  have hok:∀ b,okB E ρ hp w b→okB E ρ' hp' w b∧w.heap[b]?=w.heap[b]?:=fun b ⟨h1,h2,h3⟩=>⟨⟨h1,h2,fun hl=>h3 (hlive b hl)⟩,rfl⟩
  refine ⟨ρ',h.np,h.nodef,h.nt,fun t=>?_,⟨by simp [ρ',hl],fun k x b q hx hk hd=>?_,fun k x hx hk=>?_,fun k k' x x' b q q' hx hx' hd hd' hk hk'=>?_,h.heap.fr⟩,fun k p hk=>?_⟩
  · rcases uT he t with e | ⟨e,hi⟩
    · simp only [e];exact .any _
    · have:=h.env t
      simp only [e] at this
      exact rh hdown hok this _ rfl hi
  · obtain ⟨i,_,_,h1,h2,h3⟩:=hblk k x _ hx hd hk
    obtain ⟨q1,o,q2,q3⟩:=h.heap.obj i _ b q h1 h3 (cH hd)
    exact ⟨q1,o,q2,xn hdown hok q3 h2⟩
  · by_cases hd:x=.dead
    · exact .inl hd
    · obtain ⟨i,_,_,h1,h2,h3⟩:=hblk k x _ hx hd hk
      rcases h.heap.nil i _ h1 h3 with e | ⟨sz,e⟩
      · exact absurd e (cH hd)
      · right
        cases x with
        | cells cs=>simp [renB] at e
        | rows sz' rs=>simp [renB] at e;exact ⟨sz',by rw [e.2]⟩
        | full sz' rs=>simp [renB] at e
        | bytes l=>simp [renB] at e
        | map es=>simp [renB] at e
        | iter k a b c=>simp [renB] at e
        | dead=>simp [renB] at e
  · obtain ⟨i,a1,_,h1,_,h3⟩:=hblk k x _ hx hd hk
    obtain ⟨i',a1',_,h1',_,h3'⟩:=hblk k' x' _ hx' hd' hk'
    have:=h.heap.inj i i' _ _ b q q' h1 h1' (cH hd) (cH hd') h3 h3'
    subst this
    exact hmi k k' i a1 a1'
  · have hkn:k < np:=by
      have:=(List.getElem?_eq_some_iff.1 hk).1
      rw [h.np] at this;exact this
    exact (hρ' k p).2 ⟨k,hpre k hkn,h.pre k p hk⟩
theorem aF.keep {np nt:Nat} {env env':List (Nat×AV)} {hp hp':List ABlk} (hn:np≤hp'.length) (hlt:hp'.length≤hp.length)
    (he:ot (mAt (List.range hp'.length) hp.length) hp'.length env env') (hh:ls (mAt (List.range hp'.length) hp.length) hp'.length hp 0 hp') :
    aF { np:=np,nt:=nt,env:=env,hp:=hp } { np:=np,nt:=nt,env:=env',hp:=hp' }:=
  aF.frame (List.range hp'.length) (by simp) (fun i hi=>by simp at hi;omega) List.nodup_range (fun k hk=>by rw [List.getElem?_range (by omega)]) (by simpa using he) (by simpa using hh)
theorem aF.nilOwn (t sz:Nat) {np nt:Nat} {env:List (Nat×AV)} {hp:List ABlk} (ht:bR env t=.d (.sc (.slice none 0 0))) :
    aF { np:=np,nt:=nt,env:=env,hp:=hp } { np:=np,nt:=nt,env:=(t,.osl hp.length sz 0 0)::env,hp:=hp++[.rows sz []] }:=by
  intro E ρ a w h
  have hst:=HStep.nilRow h.heap sz
  have hr:=h.step hst
  refine ⟨_,hr.np,hr.nodef,hr.nt,fun t'=>?_,hr.heap,hr.pre⟩
  simp only [bR]
  by_cases e:t=t'
  · subst e
    simp only [if_true]
    have:=h.env t
    simp only [ht] at this
    generalize hu:a.tmps.getD t undef=u at this
    cases this with | d _ _ hd=>
    obtain ⟨A,rfl⟩:=gW hd
    have hl:=h.heap.len
    simp only at hl
    exact .oslnil _ _ A (by rw [←hl];simp)
  · simp only [e,if_false]
    exact hr.env t'
def Jp (hp:List ABlk) (env:List (Nat×AV)):List (Nat×AV)→Prop
  | []=>True
  | (t,v)::r=>((bR env t=v)∨(bJ hp (bR env t)∧bV (aZ hp (bR env t))∧v=aZ hp (bR env t)))∧Jp hp env r
def killRows:List ABlk→List ABlk
  | []=>[]
  | .rows _ _::r=>.dead::killRows r
  | x::r=>x::killRows r
theorem eu:∀ {hp:List ABlk} {k:Nat} {x:ABlk},(killRows hp)[k]?=some x→x≠.dead→hp[k]?=some x
  | [],k,x,h,_=>by simp [killRows] at h
  | y::r,0,x,h,hd=>by
    cases y with
    | rows _ _=>simp [killRows] at h;exact absurd h.symm hd
    | cells _=>simpa [killRows] using h
    | full _ _=>simpa [killRows] using h
    | bytes _=>simpa [killRows] using h
    | map _=>simpa [killRows] using h
    | iter _ _ _ _=>simpa [killRows] using h
    | dead=>simp [killRows] at h;exact absurd h.symm hd
  | y::r,k+1,x,h,hd=>by
    have:(killRows r)[k]?=some x:=by cases y<;>simpa [killRows] using h
    simpa using eu this hd
theorem ku:∀ {hp:List ABlk},(killRows hp).length=hp.length
  | []=>rfl
  | y::r=>by cases y<;>simp [killRows,ku (hp:=r)]
theorem HStep.killRows (h:RepH E ρ hp w):HStep E ρ hp w ρ (killRows hp) w:=by
  have hlive:∀ b,eI ρ (_root_.Go.Proofs.YtjcooccnfkfjhaaGreatDoor.killRows hp) b→eI ρ hp b:=fun b ⟨j,y,m,hy,hd,hk⟩=>⟨j,y,m,eu hy hd,hd,hk⟩
  have hok:∀ b,okB E ρ hp w b→okB E ρ (_root_.Go.Proofs.YtjcooccnfkfjhaaGreatDoor.killRows hp) w b∧w.heap[b]?=w.heap[b]?:=fun b ⟨h1,h2,h3⟩=>⟨⟨h1,h2,fun hl=>h3 (hlive b hl)⟩,rfl⟩
  refine ⟨⟨by rw [ku];exact h.len,fun j y b m hy hk hd=>?_,fun j y hy hk=>?_,fun j j' y y' b m m' hy hy' hd hd' hk hk'=>?_,h.fr⟩,fun _ _ hk=>hk,hok⟩
  · obtain ⟨q1,o,q2,q3⟩:=h.obj j y b m (eu hy hd) hk hd
    exact ⟨q1,o,q2,q3.mono (fun _ _ hh=>hh) hok⟩
  · by_cases hd:y=.dead
    · exact .inl hd
    · exact h.nil j y (eu hy hd) hk
  · exact h.inj j j' y y' b m m' (eu hy hd) (eu hy' hd') hd hd' hk hk'
end
end Go.Proofs.YtjcooccnfkfjhaaGreatDoor
namespace Go.Proofs.YtjcooccnfkfjhaaGreatDoor
set_option linter.unusedVariables false
set_option linter.unusedSimpArgs false
open Go Go.RowKit
def BO:Value→Bool
  | .slice _ _ _=>true
  | _=>false
mutual
def aY:AV→Option Value
  | .d (.int k n)=>some (.int k n)
  | .d (.bool b)=>some (.bool b)
  | .d (.str l)=>some (aG l)
  | .d (.sc v)=>if v.oneCell'=true∧BO v=false then some v else none
  | .tup vs=>(fC vs).map fun l=>.tuple l.toArray
  | .agg cs=>(fC cs).bind fun l=>if l.all (·.oneCell') then some (.agg l.toArray) else none
  | _=>none
def fC:List AV→Option (List Value)
  | []=>some []
  | x::r=>match aY x,fC r with
    | some u,some l=>some (u::l)
    | _,_=>none
end
section
variable {P:Program} {T:TypeId→TI} {E:Ent} {s:ASt} {ρ ρ':List (Option (Nat×Nat))} {a:Act} {w w':World} {hp:List ABlk} {ok ok':Nat→Prop}
theorem e9:∀ {cs:List AV} {l:List Value},fC cs=some l→l.length=cs.length∧∀ (j:Nat) (x:AV),cs[j]?=some x→∃ u,l[j]?=some u∧aY x=some u
  | [],l,h=>by simp [fC] at h;subst h;exact ⟨rfl,by simp⟩
  | x :: r,l,h=>by
    simp only [fC] at h
    cases h1:aY x with
    | none=>simp [h1] at h
    | some u=>
      cases h2:fC r with
      | none=>simp [h1,h2] at h
      | some l'=>
        simp [h1,h2] at h
        subst h
        obtain ⟨a1,a2⟩:=e9 h2
        refine ⟨by simp [a1],fun j y hy=>?_⟩
        match j with
        | 0=>simp at hy;subst hy;exact ⟨u,rfl,h1⟩
        | j+1=>simpa using a2 j y (by simpa using hy)
theorem qp {x:AV} {u:Value} (h:RepV ρ ok w x u):∀ u0,aY x=some u0→u=u0:=by
  induction h with
  | d x v h=>
    intro u0 e
    cases h with
    | int k n=>simp [aY] at e;exact e
    | bool b=>simp [aY] at e;exact e
    | str l=>simp [aY] at e;exact e
    | sc v h1=>simp [aY,h1] at e;exact e.2
    | sc0 A=>simp [aY,BO] at e
    | sl=>simp [aY] at e
  | agg cs us hl h1 hr ih=>
    intro u0 e
    simp only [aY,Option.bind_eq_some_iff] at e
    obtain ⟨l,hl',e⟩:=e
    split at e
    · injection e with e
      subst e
      obtain ⟨a1,a2⟩:=e9 hl'
      congr 2
      apply List.ext_getElem?
      intro j
      by_cases hj:j < cs.length
      · obtain ⟨u,hu,hs⟩:=a2 j _ (List.getElem?_eq_getElem hj)
        have hju:j < us.length:=by omega
        rw [hu,List.getElem?_eq_getElem hju]
        rw [ih j _ _ (List.getElem?_eq_getElem hj) (List.getElem?_eq_getElem hju) u hs]
      · rw [List.getElem?_eq_none (by omega),List.getElem?_eq_none (by omega)]
    · cases e
  | tup cs us hl hr ih=>
    intro u0 e
    simp only [aY,Option.map_eq_some_iff] at e
    obtain ⟨l,hl',e⟩:=e
    subst e
    obtain ⟨a1,a2⟩:=e9 hl'
    congr 2
    apply List.ext_getElem?
    intro j
    by_cases hj:j < cs.length
    · obtain ⟨u,hu,hs⟩:=a2 j _ (List.getElem?_eq_getElem hj)
      have hju:j < us.length:=by omega
      rw [hu,List.getElem?_eq_getElem hju]
      rw [ih j _ _ (List.getElem?_eq_getElem hj) (List.getElem?_eq_getElem hju) u hs]
    · rw [List.getElem?_eq_none (by omega),List.getElem?_eq_none (by omega)]
  | _=>intro u0 e;simp [aY] at e
mutual
theorem kU:∀ (x:AV) (u:Value),aY x=some u→RepV ρ ok w x u
  | .d (.int k n),u,h=>by simp [aY] at h;subst h;exact .d _ _ (.int _ _)
  | .d (.bool b),u,h=>by simp [aY] at h;subst h;exact .d _ _ (.bool _)
  | .d (.str l),u,h=>by simp [aY] at h;subst h;exact .d _ _ (.str _)
  | .d (.sc v),u,h=>by
    simp only [aY] at h
    split at h
    · rename_i h1;injection h with h;subst h;exact .d _ _ (.sc _ h1.1)
    · cases h
  | .d (.sl _ _),u,h=>by simp [aY] at h
  | .tup vs,u,h=>by
    simp only [aY,Option.map_eq_some_iff] at h
    obtain ⟨l,hl,rfl⟩:=h
    obtain ⟨a1,a2⟩:=e9 hl
    exact .tup _ _ a1 (pk vs l hl)
  | .agg cs,u,h=>by
    simp only [aY,Option.bind_eq_some_iff] at h
    obtain ⟨l,hl,h⟩:=h
    split at h
    · rename_i h1
      injection h with h
      subst h
      obtain ⟨a1,a2⟩:=e9 hl
      exact .agg _ _ a1 (by simpa using h1) (pk cs l hl)
    · cases h
  | .ptr _ _,u,h=>by simp [aY] at h
  | .rp _ _ _ _,u,h=>by simp [aY] at h
  | .osl _ _ _ _,u,h=>by simp [aY] at h
  | .dp _ _,u,h=>by simp [aY] at h
  | .clo _ _ _,u,h=>by simp [aY] at h
  | .gd _ _,u,h=>by simp [aY] at h
  | .mp _,u,h=>by simp [aY] at h
  | .any,u,h=>by simp [aY] at h
theorem pk:∀ (cs:List AV) (l:List Value),fC cs=some l→∀ (j:Nat) (x:AV) (u:Value),cs[j]?=some x→l[j]?=some u→RepV ρ ok w x u
  | [],l,h,j,x,u,hx,hu=>by simp at hx
  | y :: r,l,h,j,x,u,hx,hu=>by
    simp only [fC] at h
    cases h1:aY y with
    | none=>simp [h1] at h
    | some v=>
      cases h2:fC r with
      | none=>simp [h1,h2] at h
      | some l'=>
        simp [h1,h2] at h
        subst h
        match j with
        | 0=>simp at hx hu;subst hx;subst hu;exact kU y v h1
        | j+1=>exact pk r l' h2 j x u (by simpa using hx) (by simpa using hu)
end
theorem oX {g:FuncId} {xs:List AV} {x:AV} {u0:Value} (c:ab P [] g (cJ hp xs) (fun v _=>v=x)) (hsc:aY x=some u0) (hf:bN hp xs) (hn:cf (cJ hp xs)) :
    vf P hp g xs x:=by
  refine ⟨c.1,fun E ρ w us hH hus=>⟨u0,kU x u0 hsc,fun w' hb=>?_⟩⟩
  let E':Ent:={ w0:=w',L0:=fun _=>False,S0:=fun b=>b < w.heap.size,ρ0:=[],hS:=fun b h=>⟨Nat.lt_of_lt_of_le h hb.size,fun h=>h⟩,hL:=fun b h=>h.elim,hT:=hH.tabsAt.below hb,hTL:=fun _ _ h=>h }
  have hnl:∀ b,¬ eI [] [] b:=fun b ⟨k,x,m,hx,_⟩=>by simp at hx
  have hE:RepH E' [] [] w':=⟨rfl,by simp,by simp,by simp,Fr.refl _ _⟩
  have hargs:ga [] (okB E' [] [] w') w' (cJ hp xs) us:=by
    refine ⟨by rw [d8];exact hus.1,fun j y u hy hu=>?_⟩
    have hy0:=hy
    rw [dF] at hy
    obtain ⟨z,hz,rfl⟩:=Option.map_eq_some_iff.1 hy
    have h1:=Gx (ok':=fun b=>b < w.heap.size) hH.blks (fun b hb=>hb.2.1) (fun k b m sz rs hk hb=>by
      obtain ⟨_,us,ty,fz,q2,_⟩:=hH.blk k _ b m hk hb (by simp)
      exact aJ q2) (hus.2 j z u hz hu) (dy hf hz) (cF hn hy0)
    exact ia (fun b hb'=>⟨⟨.inl hb',Nat.lt_of_lt_of_le hb' hb.size,hnl b⟩,hb.block b hb'⟩) h1 (cF hn hy0)
  refine (c.2 E' w' us rfl hE hargs).mono fun e w'' hh=>?_
  obtain ⟨u,v,hp',ρ',h1,h2,h3,h4,h5⟩:=hh
  subst h2
  refine ⟨by rw [h1,qp h5 u0 hsc],h3.fr.os,h3.fr.tape,h3.fr.output,h3.fr.size,fun k hk=>h3.fr.block k hk (fun h=>h)⟩
theorem xZ {g:FuncId} {xs:List AV} {x:AV} {K:AV→List ABlk→Prop} (h:vf P hp g xs x) (hK:K x hp):oD P hp g xs K:=by
  refine ⟨h.1,fun E ρ w us hH hus=>?_⟩
  obtain ⟨u,hu,hrun⟩:=h.2 E ρ w us hH hus
  refine (hrun w (gZ w)).mono fun e w' ⟨h1,h2⟩=>?_
  have hs:=HStep.below hH h2
  exact ⟨u,x,hp,ρ,h1,hK,hs,hu.step hs⟩
theorem pW {g:FuncId} {xs:List AV} {x:AV} {u0:Value} {K:AV→List ABlk→Prop} (c:ab P [] g (cJ hp xs) (fun v _=>v=x)) (hsc:aY x=some u0) (hf:bN hp xs)
    (hn:cf (cJ hp xs)) (hK:K x hp):oD P hp g xs K:=xZ (oX c hsc hf hn) hK
def br (m:List Nat) (n k:Nat):Nat:=match m[k]? with | some j=>j | none=>k - m.length+n
def bH (f:Nat→Nat):List ABlk→List Nat→List ABlk→List ABlk
  | hp,i::m,x::r=>bH f (hp.set i (renB f x)) m r
  | hp,_,_=>hp
def db (f:Nat→Nat) (l:List ABlk):List ABlk:=l.map (renB f)
theorem eJ {f:Nat→Nat}:∀ {m:List Nat} {hp:List ABlk} {r:List ABlk},(bH f hp m r).length=hp.length
  | [],hp,r=>by cases r<;>simp [bH]
  | i::m,hp,[]=>by simp [bH]
  | i::m,hp,x::r=>by simp only [bH];rw [eJ];simp
theorem rI {f:Nat→Nat}:∀ {m:List Nat} {hp:List ABlk} {r:List ABlk},m.Nodup→m.length≤r.length→(∀ i,i∈m→i < hp.length)→∀ (j:Nat) (y:ABlk),(bH f hp m r)[j]?=some y→
    (j∉m∧hp[j]?=some y)∨∃ (i:Nat) (x:ABlk),m[i]?=some j∧r[i]?=some x∧y=renB f x
  | [],hp,r,_,_,_,j,y,h=>by
    have:bH f hp [] r=hp:=by cases r<;>simp [bH]
    rw [this] at h
    exact .inl ⟨by simp,h⟩
  | i::m,hp,[],_,hl,_,j,y,h=>by simp at hl
  | i :: m,hp,x::r,hnd,hl,hm,j,y,h=>by
    simp only [bH] at h
    have hnd':=List.nodup_cons.1 hnd
    rcases rI hnd'.2 (by simpa using hl) (fun k hk=>by simpa using hm k (List.mem_cons_of_mem _ hk)) j y h with ⟨h1,h2⟩ | ⟨k,z,h1,h2,h3⟩
    · rcases ak h2 with ⟨e,e',_⟩ | ⟨hne,h3⟩
      · subst e;exact .inr ⟨0,x,by simp,by simp,e'⟩
      · exact .inl ⟨fun hh=>(List.mem_cons.1 hh).elim (fun e=>hne e) (fun e=>h1 e),h3⟩
    · exact .inr ⟨k+1,z,by simpa using h1,by simpa using h2,h3⟩
theorem jy {g:FuncId} (m:List Nat) {chp:List ABlk} {cargs:List AV} {R:AV→List ABlk→Prop} {K:AV→List ABlk→Prop} (c:ab P chp g cargs R)
    (hcl:chp.length=m.length) (hnd:m.Nodup) (hm:∀ i,i∈m→i < hp.length) (hargs:inL m.length cargs) (hchp:ls (mAt m hp.length) m.length hp 0 chp)
    (hK:∀ v hp',R v hp'→K (renV (br m hp.length) v) (bH (br m hp.length) hp m hp'++db (br m hp.length) (hp'.drop m.length))) :
    oD P hp g (renL (mAt m hp.length) cargs) K:=by
  refine ⟨c.1,fun E ρ w us hH hus=>?_⟩
  have hlen:=hH.len
  have hmi:∀ (i j x:Nat),m[i]?=some x→m[j]?=some x→i=j:=by
    intro i j x hi hj
    obtain ⟨hi1,hi2⟩:=List.getElem?_eq_some_iff.1 hi
    obtain ⟨hj1,hj2⟩:=List.getElem?_eq_some_iff.1 hj
    have hpw:=List.pairwise_iff_getElem.1 hnd
    rcases Nat.lt_trichotomy i j with hlt | heq | hgt
    · exact absurd (hi2.trans hj2.symm) (hpw i j hi1 hj1 hlt)
    · exact heq
    · exact absurd (hj2.trans hi2.symm) (hpw j i hj1 hi1 hgt)
  let ρc:List (Option (Nat×Nat)):=m.map fun i=>(ρ[i]?).getD none
  have hρc:∀ (k:Nat) (p:Option (Nat×Nat)),ρc[k]?=some p↔∃ x,m[k]?=some x∧ρ[x]?=some p:=by
    intro k p
    simp only [ρc,List.getElem?_map,Option.map_eq_some_iff]
    constructor
    · rintro ⟨x,hx,e⟩
      have hxl:x < ρ.length:=by rw [hlen];exact hm x (List.mem_of_getElem? hx)
      rw [List.getElem?_eq_getElem hxl] at e
      exact ⟨x,hx,by rw [List.getElem?_eq_getElem hxl];simpa using e⟩
    · rintro ⟨x,hx,e⟩
      exact ⟨x,hx,by rw [e];rfl⟩
  have hdown:∀ (k:Nat) (p:Option (Nat×Nat)),k < m.length→ρ[mAt m hp.length k]?=some p→ρc[k]?=some p:=by
    intro k p hk hp'
    have:mAt m hp.length k=m[k]:=by simp [mAt,List.getElem?_eq_getElem hk]
    rw [this] at hp'
    exact (hρc k p).2 ⟨m[k],List.getElem?_eq_getElem hk,hp'⟩
  have hblk:∀ (j:Nat) (x:ABlk) (p:Option (Nat×Nat)),chp[j]?=some x→x≠.dead→ρc[j]?=some p→∃ i,m[j]?=some i∧hp[i]?=some (renB (mAt m hp.length) x)∧inB m.length x∧ρ[i]?=some p:=by
    intro j x p hx hd hpj
    rcases rG hchp j x hx with e | ⟨h1,h2⟩
    · exact absurd e hd
    · rw [Nat.zero_add] at h1
      obtain ⟨i,hi,hip⟩:=(hρc j p).1 hpj
      have:mAt m hp.length j=i:=by simp [mAt,hi]
      rw [this] at h1
      exact ⟨i,hi,h1,h2,hip⟩
  have hlivec:∀ b,eI ρc chp b→eI ρ hp b:=by
    intro b ⟨k,x,q,hx,hd,hk⟩
    obtain ⟨i,_,h1,_,h2⟩:=hblk k x _ hx hd hk
    exact ⟨i,_,q,h1,cH hd,h2⟩
  let E':Ent:={ w0:=w,L0:=fun b=>eI ρc chp b,S0:=fun b=>okB E ρ hp w b,ρ0:=ρc,hS:=fun b h=>⟨h.2.1,fun hl=>h.2.2 (hlivec b hl)⟩,hL:=fun b ⟨k,_,q,_,_,hk⟩=>⟨k,q,hk⟩,hT:=hH.tabsAt,hTL:=fun p hp' hl=>hH.tabLive hp' (hlivec _ hl) }
  have hokc:∀ b,okB E ρ hp w b→okB E' ρc chp w b∧w.heap[b]?=w.heap[b]?:=fun b hb=>⟨⟨.inl hb,hb.2.1,fun hl=>hb.2.2 (hlivec b hl)⟩,rfl⟩
  have hE : RepH E' ρc chp w:=by
    refine ⟨by simp [ρc,hcl],fun k x b q hx hk hd=>?_,fun k x hx hk=>?_,fun k k' x x' b q q' hx hx' hd hd' hk hk'=>?_,Fr.refl _ _⟩
    · obtain ⟨i,_,h1,h2,h3⟩:=hblk k x _ hx hd hk
      obtain ⟨q1,o,q2,q3⟩:=hH.obj i _ b q h1 h3 (cH hd)
      exact ⟨.inl ⟨k,x,q,hx,hd,hk⟩,o,q2,xn hdown hokc q3 h2⟩
    · by_cases hd:x=.dead
      · exact .inl hd
      · obtain ⟨i,_,h1,h2,h3⟩:=hblk k x _ hx hd hk
        rcases hH.nil i _ h1 h3 with e | ⟨sz,e⟩
        · exact absurd e (cH hd)
        · right
          cases x with
          | cells cs=>simp [renB] at e
          | rows sz' rs=>simp [renB] at e;exact ⟨sz',by rw [e.2]⟩
          | full sz' rs=>simp [renB] at e
          | bytes l=>simp [renB] at e
          | map es=>simp [renB] at e
          | iter k a b c=>simp [renB] at e
          | dead=>simp [renB] at e
    · obtain ⟨i,a1,h1,_,h3⟩:=hblk k x _ hx hd hk
      obtain ⟨i',a1',h1',_,h3'⟩:=hblk k' x' _ hx' hd' hk'
      have:=hH.inj i i' _ _ b q q' h1 h1' (cH hd) (cH hd') h3 h3'
      subst this
      exact hmi k k' i a1 a1'
  have hav:ga ρc (okB E' ρc chp w) w cargs us:=by
    refine ⟨by rw [hus.1,cc],fun j x u hx hu=>?_⟩
    exact rh hdown hokc (hus.2 j (renV (mAt m hp.length) x) u (by rw [dG,hx];rfl) hu) x rfl (jQ hargs hx)
  refine (c.2 E' w us rfl hE hav).mono fun e w' hh=>?_
  obtain ⟨u,v,hp',ρ',h1,h2,h3,h4,h5⟩:=hh
  -- the caller's names behind the call
  have hl3:=h3.len
  have hml:m.length≤ρ'.length:=by
    rcases Nat.eq_zero_or_pos m.length with h0 | h0
    · omega
    · have hlast:m.length - 1 < ρc.length:=by simp [ρc];omega
      have:=(List.getElem?_eq_some_iff.1 (h4 (m.length - 1) _ (List.getElem?_eq_getElem hlast))).1
      omega
  let ρ2:List (Option (Nat×Nat)):=ρ++ρ'.drop m.length
  have hup1:∀ (k:Nat) (p:Option (Nat×Nat)),ρ[k]?=some p→ρ2[k]?=some p:=fun k p hk=>by
    have:=(List.getElem?_eq_some_iff.1 hk).1
    simp only [ρ2];rw [List.getElem?_append_left this];exact hk
  have hren:∀ (k:Nat) (p:Option (Nat×Nat)),ρ'[k]?=some p→ρ2[br m hp.length k]?=some p:=by
    intro k p hk
    by_cases hkm:k < m.length
    · have hmk:m[k]?=some m[k]:=List.getElem?_eq_getElem hkm
      have:br m hp.length k=m[k]:=by simp [br,hmk]
      rw [this]
      refine hup1 _ _ ?_
      have hml':m[k] < ρ.length:=by rw [hlen];exact hm _ (List.getElem_mem hkm)
      have hρk:ρc[k]?=some ρ[m[k]]:=(hρc k _).2 ⟨m[k],hmk,List.getElem?_eq_getElem hml'⟩
      have:=h4 k _ hρk
      rw [this] at hk
      injection hk with hk
      rw [←hk];exact List.getElem?_eq_getElem hml'
    · have hmk:m[k]?=none:=List.getElem?_eq_none (by omega)
      have:br m hp.length k=k - m.length+hp.length:=by simp [br,hmk]
      rw [this]
      simp only [ρ2]
      rw [List.getElem?_append_right (by omega),List.getElem?_drop]
      rw [show m.length+(k - m.length+hp.length - ρ.length)=k from by omega]
      exact hk
  -- who is live behind the call
  have back:∀ (j:Nat) (y:ABlk) (p:Option (Nat×Nat)),(bH (br m hp.length) hp m hp'++db (br m hp.length) (hp'.drop m.length))[j]?=some y→y≠.dead→ρ2[j]?=some p→
      (j∉m∧hp[j]?=some y∧ρ[j]?=some p)∨∃ (i:Nat) (x:ABlk),br m hp.length i=j∧hp'[i]?=some x∧x≠.dead∧y=renB (br m hp.length) x∧ρ'[i]?=some p:=by
    intro j y p hy hd hj
    by_cases hjl:j < hp.length
    · rw [List.getElem?_append_left (by rw [eJ];exact hjl)] at hy
      have hj':ρ[j]?=some p:=by
        have:j < ρ.length:=by omega
        simp only [ρ2] at hj
        rwa [List.getElem?_append_left this] at hj
      rcases rI hnd (by rw [←hl3];exact hml) hm j y hy with ⟨a1,a2⟩ | ⟨i,x,a1,a2,a3⟩
      · exact .inl ⟨a1,a2,hj'⟩
      · refine .inr ⟨i,x,by simp [br,a1],a2,fun e=>by subst e;subst a3;exact hd rfl,a3,?_⟩
        exact h4 i p ((hρc i p).2 ⟨j,a1,hj'⟩)
    · rw [List.getElem?_append_right (by rw [eJ];omega),eJ] at hy
      simp only [db,List.getElem?_map] at hy
      obtain ⟨x,hx,rfl⟩:=Option.map_eq_some_iff.1 hy
      rw [List.getElem?_drop] at hx
      simp only [ρ2] at hj
      rw [List.getElem?_append_right (by omega),List.getElem?_drop] at hj
      refine .inr ⟨m.length+(j - hp.length),x,?_,hx,fun e=>by subst e;exact hd rfl,rfl,by rw [←hlen] at *;exact hj⟩
      have:m[m.length+(j - hp.length)]?=none:=List.getElem?_eq_none (by omega)
      simp only [br,this]
      omega
  have hlive2:∀ b,eI ρ2 (bH (br m hp.length) hp m hp'++db (br m hp.length) (hp'.drop m.length)) b→eI ρ hp b∨eI ρ' hp' b:=by
    intro b ⟨j,y,q,hy,hd,hj⟩
    rcases back j y _ hy hd hj with ⟨_,a2,a3⟩ | ⟨i,x,_,a2,a3,_,a5⟩
    · exact .inl ⟨j,y,q,a2,hd,a3⟩
    · exact .inr ⟨i,x,q,a2,a3,a5⟩
  -- what the callee's blocks are
  have hcb:∀ b,eI ρ' hp' b→(eI ρc chp b∨w.heap.size≤b):=by
    intro b ⟨i,x,q,hx,hd,hi⟩
    exact (h3.obj i x b q hx hi hd).1
  have hsz0:=hH.fr.size
  have hokE:∀ b,okB E' ρ' hp' w' b→okB E ρ2 (bH (br m hp.length) hp m hp'++db (br m hp.length) (hp'.drop m.length)) w' b∧w'.heap[b]?=w'.heap[b]?:=by
    intro b ⟨b1,b2,b3⟩
    refine ⟨⟨?_,b2,fun hl=>?_⟩,rfl⟩
    · rcases b1 with b1 | b1
      · exact b1.1
      · exact .inr (Nat.le_trans hsz0 b1)
    · rcases hlive2 b hl with hl | hl
      · rcases b1 with b1 | b1
        · exact b1.2.2 hl
        · have:=hH.live_lt hl
          have hb1:w.heap.size≤b:=b1
          omega
      · exact b3 hl
  have hokC:∀ b,okB E ρ hp w b→okB E ρ2 (bH (br m hp.length) hp m hp'++db (br m hp.length) (hp'.drop m.length)) w' b∧w'.heap[b]?=w.heap[b]?:=by
    intro b ⟨b1,b2,b3⟩
    refine ⟨⟨b1,Nat.lt_of_lt_of_le b2 h3.fr.size,fun hl=>?_⟩,h3.fr.block b b2 (fun hl=>b3 (hlivec b hl))⟩
    rcases hlive2 b hl with hl | hl
    · exact b3 hl
    · rcases hcb b hl with hl | hl
      · exact b3 (hlivec b hl)
      · omega
  have hstep:HStep E ρ hp w ρ2 (bH (br m hp.length) hp m hp'++db (br m hp.length) (hp'.drop m.length)) w':=by
    refine ⟨⟨?_,fun j y b q hy hj hd=>?_,fun j y hy hj=>?_,fun j j' y y' b q q' hy hy' hd hd' hj hj'=>?_,?_⟩,hup1,hokC⟩
    · simp [ρ2,eJ,db,hlen,hl3]
    · rcases back j y _ hy hd hj with ⟨a1,a2,a3⟩ | ⟨i,x,a1,a2,a3,a4,a5⟩
      · obtain ⟨q1,o,q2,q3⟩:=hH.obj j y b q a2 a3 hd
        have hbl:w'.heap[b]?=w.heap[b]?:=h3.fr.block b (aJ q2) (fun hl=>by
          obtain ⟨k,x,q',hx,hxd,hk⟩:=hl
          obtain ⟨i,hi,c1,_,c2⟩:=hblk k x _ hx hxd hk
          have:=hH.inj j i y _ b q q' a2 c1 hd (cH hxd) a3 c2
          subst this
          exact a1 (List.mem_of_getElem? hi))
        exact ⟨q1,o,hbl.trans q2,q3.mono hup1 hokC⟩
      · subst a4
        obtain ⟨q1,o,q2,q3⟩:=h3.obj i x b q a2 a5 a3
        refine ⟨?_,o,q2,Lq hren hokE q3⟩
        rcases q1 with ⟨k,z,q',hz,hzd,hk⟩ | q1
        · obtain ⟨i',_,c1,_,c2⟩:=hblk k z _ hz hzd hk
          exact (hH.obj i' _ b q' c1 c2 (cH hzd)).1
        · exact .inr (Nat.le_trans hsz0 q1)
    · by_cases hd:y=.dead
      · exact .inl hd
      · rcases back j y _ hy hd hj with ⟨a1,a2,a3⟩ | ⟨i,x,a1,a2,a3,a4,a5⟩
        · exact hH.nil j y a2 a3
        · subst a4
          rcases h3.nil i x a2 a5 with e | ⟨sz,e⟩
          · exact absurd e a3
          · subst e;exact .inr ⟨sz,rfl⟩
    · have cross:∀ (j i:Nat) (y x:ABlk) (q q':Nat),j∉m→hp[j]?=some y→y≠.dead→ρ[j]?=some (some (b,q))→hp'[i]?=some x→x≠.dead→ρ'[i]?=some (some (b,q'))→False:=by
        intro j i y x q q' a1 a2 hyd a3 b2 b3 b5
        rcases hcb b ⟨i,x,q',b2,b3,b5⟩ with ⟨k,z,q'',hz,hzd,hk⟩ | hge
        · obtain ⟨i',hi',c1,_,c2⟩:=hblk k z _ hz hzd hk
          have:=hH.inj j i' y _ b q q'' a2 c1 hyd (cH hzd) a3 c2
          subst this
          exact a1 (List.mem_of_getElem? hi')
        · have:=hH.live_lt ⟨j,y,q,a2,hyd,a3⟩
          omega
      rcases back j y _ hy hd hj with ⟨a1,a2,a3⟩ | ⟨i,x,a1,a2,a3,a4,a5⟩
      · rcases back j' y' _ hy' hd' hj' with ⟨b1,b2,b3⟩ | ⟨i',x',b1,b2,b3,b4,b5⟩
        · exact hH.inj j j' y y' b q q' a2 b2 hd hd' a3 b3
        · exact (cross j i' y x' q q' a1 a2 hd a3 b2 b3 b5).elim
      · rcases back j' y' _ hy' hd' hj' with ⟨b1,b2,b3⟩ | ⟨i',x',b1,b2,b3,b4,b5⟩
        · exact (cross j' i y' x q' q b1 b2 hd' b3 a2 a3 a5).elim
        · have:=h3.inj i i' x x' b q q' a2 b2 a3 b3 a5 b5
          subst this
          rw [←a1,←b1]
    · refine ⟨h3.fr.os.trans hH.fr.os,h3.fr.tape.trans hH.fr.tape,h3.fr.output.trans hH.fr.output,Nat.le_trans hsz0 h3.fr.size,fun b hb hL=>?_⟩
      have:w'.heap[b]?=w.heap[b]?:=h3.fr.block b (Nat.lt_of_lt_of_le hb hsz0) (fun hl=>by
        obtain ⟨k,q,x,hx,hd,hk⟩:=hlivec b hl
        rcases (hH.obj k q b x hx hk hd).1 with c1 | c1
        · exact hL c1
        · omega)
      exact this.trans (hH.fr.block b hb hL)
  exact ⟨u,_,_,ρ2,h1,hK v hp' h2,hstep,Iy hren hokE h5⟩
theorem pC {g:FuncId} {xs:List AV} {R:AV→List ABlk→Prop} {K:AV→List ABlk→Prop} (c:ab P [] g xs R) (hargs:inL 0 xs) (hid:renL (mAt [] hp.length) xs=xs)
    (hK:∀ v hp',R v hp'→K (renV (br [] hp.length) v) (hp++db (br [] hp.length) hp')):oD P hp g xs K:=by
  have:=jy (hp:=hp) [] (chp:=[]) (cargs:=xs) (R:=R) (K:=K) c rfl List.nodup_nil (by simp) hargs (by simp [ls]) (fun v hp' h=>by
    have:=hK v hp' h
    have e:bH (br [] hp.length) hp [] hp'=hp:=by cases hp'<;>simp [bH]
    rw [e]
    simpa using this)
  rwa [hid] at this
theorem ab.mono {g:FuncId} {xs:List AV} {R R':AV→List ABlk→Prop} (c:ab P hp g xs R) (h:∀ v hp',R v hp'→R' v hp'):ab P hp g xs R':=
  ⟨c.1,fun E w us h1 h2 h3=>(c.2 E w us h1 h2 h3).mono fun _ _ ⟨u,v,hp',ρ',q1,q2,q3⟩=>⟨u,v,hp',ρ',q1,h v hp' q2,q3⟩⟩
end
end Go.Proofs.YtjcooccnfkfjhaaGreatDoor
namespace Go.Proofs.YtjcooccnfkfjhaaGreatDoor
set_option linter.unusedVariables false
set_option linter.unusedSimpArgs false
open Go Go.RowKit
def ID (v:Value) (d:DV):Bool:=
  match d,v with
  | .int k n,.int k' n'=>k == k'&&n == n'
  | .bool b,.bool b'=>b == b'
  | .str l,.string s=>s.data.toList == l
  | .sc (.pointer none),.pointer none=>true
  | .sc (.slice none 0 0),.slice none 0 0=>true
  | .sc (.map none),.map none=>true
  | .sc .nilFunc,.nilFunc=>true
  | .sc .nilIface,.nilIface=>true
  | _,_=>false
theorem Hw {v:Value} {d:DV} (h:ID v d=true):v=d.val∧d.val.oneCell'=true∧∀ sz rs,d≠.sl sz rs:=by
  unfold ID at h
  split at h
  · simp at h;obtain ⟨rfl,rfl⟩:=h;exact ⟨rfl,rfl,by simp⟩
  · simp at h;subst h;exact ⟨rfl,rfl,by simp⟩
  · rename_i l s
    simp at h;subst h;exact ⟨by simp [DV.val,aG],rfl,by simp⟩
  · exact ⟨rfl,rfl,by simp⟩
  · exact ⟨rfl,rfl,by simp⟩
  · exact ⟨rfl,rfl,by simp⟩
  · exact ⟨rfl,rfl,by simp⟩
  · exact ⟨rfl,rfl,by simp⟩
  · cases h
def mI:List Value→List DV→Bool
  | [],[]=>true
  | v::l,d::r=>ID v d&&mI l r
  | _,_=>false
theorem pf:∀ {l:List Value} {r:List DV},mI l r=true→l=r.map DV.val∧∀ x,x∈r→x.val.oneCell'=true∧∀ sz rs,x≠.sl sz rs
  | [],[],_=>⟨rfl,by simp⟩
  | v::l,d::r,h=>by
    simp only [mI,Bool.and_eq_true] at h
    obtain ⟨h1,h2,h3⟩:=Hw h.1
    obtain ⟨h4,h5⟩:=pf h.2
    refine ⟨by rw [List.map_cons,←h1,←h4],fun x hx=>?_⟩
    rcases List.mem_cons.1 hx with rfl | hx
    · exact ⟨h2,h3⟩
    · exact h5 x hx
  | [],_::_,h=>by simp [mI] at h
  | _::_,[],h=>by simp [mI] at h
def HG (P:Program) (t s:Nat):Bool:=match P.info? t with | some i=>i.size == s&&!(s == 0) | none=>false
def jf (P:Program):List Field→List (Nat×Nat×TypeId)→Bool
  | [],[]=>true
  | f::l,(o,s,t)::r=>f.offset == o&&f.type == t&&HG P t s&&jf P l r
  | _,_=>false
theorem pQ {P:Program}:∀ {l:List Field} {r:List (Nat×Nat×TypeId)},jf P l r=true→l.length=r.length∧
    ∀ (j:Nat) (o s t:Nat),r[j]?=some (o,s,t)→∃ f,l[j]?=some f∧f.offset=o∧f.type=t∧s≠0∧∃ i,P.info? t=some i∧i.size=s
  | [],[],_=>⟨rfl,by simp⟩
  | f :: l,(o,s,t)::r,h=>by
    simp only [jf,Bool.and_eq_true,beq_iff_eq] at h
    obtain ⟨⟨⟨h1,h2⟩,h3⟩,h4⟩:=h
    obtain ⟨h5,h6⟩:=pQ h4
    refine ⟨by simp [h5],fun j o' s' t' hj=>?_⟩
    match j with
    | 0 =>
      simp at hj
      obtain ⟨rfl,rfl,rfl⟩:=hj
      unfold HG at h3
      cases hi:P.info? t with
      | none=>simp [hi] at h3
      | some i=>
        simp [hi] at h3
        exact ⟨f,rfl,h1,h2,h3.2,i,rfl,h3.1⟩
    | j+1=>simpa using h6 j o' s' t' (by simpa using hj)
  | [],_::_,h=>by simp [jf] at h
  | _::_,[],h=>by simp [jf] at h
def A7 (P:Program) (d:TypeDesc) (k:TK):Bool:=
  match k,d with
  | .int a,.int b=>a == b
  | .bool,.bool=>true
  | .str,.string=>true
  | .slice a,.slice b=>a == b
  | .struct fs,.struct fields=>jf P fields.toList fs
  | .array n e,.array n' e'=>n == n'&&e == e'
  | .pointer e,.pointer e'=>e == e'
  | .map a b,.map a' b'=>a == a'&&b == b'
  | .func,.func _ _ _=>true
  | _,_=>false
theorem uX {P:Program} {d:TypeDesc} {k:TK} (h:A7 P d k=true):Hl P d k:=by
  unfold A7 at h
  split at h
  · simp at h;subst h;rfl
  · rfl
  · rfl
  · simp at h;subst h;rfl
  · rename_i fs fields
    obtain ⟨h1,h2⟩:=pQ h
    exact ⟨fields,rfl,by simpa using h1,fun j o s t hj=>by
      obtain ⟨f,q1,q2⟩:=h2 j o s t hj
      exact ⟨f,by simpa using q1,q2⟩⟩
  · simp at h;obtain ⟨rfl,rfl⟩:=h;rfl
  · simp at h;subst h;rfl
  · simp at h;obtain ⟨rfl,rfl⟩:=h;rfl
  · exact ⟨_,_,_,rfl⟩
  · cases h
def FQ (z:Option Value) (ti:TI):Bool:=
  match z with
  | some (.agg cs)=>ti.agg&&mI cs.toList ti.zero
  | some v=>!ti.agg&&mI [v] ti.zero
  | none=>false
def MW:TK→TK→Bool
  | .int k,.int k'=>k == k'
  | .bool,.bool=>true
  | .str,.str=>true
  | _,_=>false
def tW:List TK→List TK→Bool
  | [],[]=>true
  | a::l,b::r=>MW a b&&tW l r
  | _,_=>false
theorem xB:∀ {l r:List TK},tW l r=true→l=r
  | [],[],_=>rfl
  | a::l,b::r,h=>by
    simp only [tW,Bool.and_eq_true] at h
    rw [xB h.2]
    have h1:=h.1
    unfold MW at h1
    split at h1<;>first | rfl | (simp at h1;rw [h1]) | cases h1
  | [],_::_,h=>by simp [tW] at h
  | _::_,[],h=>by simp [tW] at h
def Iw (P:Program) (t:TypeId) (ks:List TK):Bool:=
  (match gi P 8 t with | some l=>tW l ks | none=>false)&&!(P.eqGuardType P.depth t)&&(match P.underlying t with | some (.struct _)=>true | _=>false)
theorem Fy {P:Program} {t:TypeId} {ks:List TK} (h:Iw P t ks=true):Gn P t ks:=by
  simp only [Iw,Bool.and_eq_true,Bool.not_eq_true'] at h
  obtain ⟨⟨h1,h2⟩,h3⟩:=h
  refine ⟨?_,h2,?_⟩
  · split at h1
    · rename_i l e;rw [e,xB h1]
    · cases h1
  · split at h3
    · rename_i fs e;exact ⟨fs,e⟩
    · cases h3
def qr (P:Program) (t:TypeId) (ti:TI):Bool:=
  match P.info? t,P.underlying t with
  | some i,some d=>i.size == ti.size&&i.bytes == ti.bytes&&FQ i.zero ti&&A7 P d ti.kind&&ti.zero.length == ti.size&&(ti.cmp.isEmpty || Iw P t ti.cmp)
  | _,_=>false
theorem zU {P:Program} {t:TypeId} {ti:TI} (h:qr P t ti=true):TyOk P t ti:=by
  unfold qr at h
  split at h
  · rename_i i d hi hd
    simp only [Bool.and_eq_true,beq_iff_eq] at h
    obtain ⟨⟨⟨⟨⟨h1,h2⟩,h3⟩,h4⟩,h5⟩,hcm⟩:=h
    have hcm:ti.cmp≠[]→Gn P t ti.cmp:=fun hne=>by
      simp only [Bool.or_eq_true,List.isEmpty_iff] at hcm
      rcases hcm with e | e
      · exact absurd e hne
      · exact Fy e
    unfold FQ at h3
    split at h3
    · rename_i cs hz
      simp only [Bool.and_eq_true] at h3
      obtain ⟨h6,h7⟩:=h3
      obtain ⟨h8,h9⟩:=pf h7
      refine ⟨⟨i,_,hi,h1,h2,hz,?_⟩,⟨d,hd,uX h4⟩,h9,h5,hcm⟩
      rw [if_pos h6,←h8]
    · rename_i v _ hz
      simp only [Bool.and_eq_true,Bool.not_eq_true'] at h3
      obtain ⟨h6,h7⟩:=h3
      obtain ⟨h8,h9⟩:=pf h7
      refine ⟨⟨i,_,hi,h1,h2,hz,?_⟩,⟨d,hd,uX h4⟩,h9,h5,hcm⟩
      rw [h6,if_neg (by simp),←h8]
    · cases h3
  · cases h
def TI.none:TI:={ size:=0,bytes:=0,zero:=[],kind:=.other }
def tL (l:List (Nat×TI)) (t:TypeId):TI:=
  match l with
  | []=>TI.none
  | (k,ti)::r=>if k=t then ti else tL r t
theorem yH {P:Program}:∀ {l:List (Nat×TI)},(∀ p,p∈l→qr P p.1 p.2=true)→an P (tL l)
  | [],_,t=>by simp [tL,TI.none]
  | (k,ti)::r,h,t=>by
    have ih:=yH (l:=r) (fun p hp=>h p (List.mem_cons_of_mem _ hp)) t
    by_cases e:k=t
    · subst e
      have:=zU (h (k,ti) (by simp))
      simp only [tL,if_true]
      cases ti.kind<;>first | trivial | exact this
    · simp only [tL,if_neg e]
      exact ih
/-! ### nil where data is wanted -/
mutual
def io:DV→DV→Prop
  | .sc (.slice none 0 0),.sl _ []=>True
  | .sl n rs,.sl m qs=>n=m∧kr rs qs
  | x,y=>x=y
def kr:List (List DV)→List (List DV)→Prop
  | [],[]=>True
  | r::rs,q::qs=>iF r q∧kr rs qs
  | _,_=>False
def iF:List DV→List DV→Prop
  | [],[]=>True
  | x::r,y::q=>io x y∧iF r q
  | _,_=>False
end
mutual
def cY:AV→AV→Prop
  | .d x,.d y=>x=y∨io x y
  | .agg xs,.agg ys=>gk xs ys
  | .tup xs,.tup ys=>gk xs ys
  | x,y=>x=y
def gk:List AV→List AV→Prop
  | [],[]=>True
  | x::r,y::l=>cY x y∧gk r l
  | _,_=>False
end
theorem iX:∀ {xs ys:List DV},iF xs ys→xs.length=ys.length∧∀ (j:Nat) (x y:DV),xs[j]?=some x→ys[j]?=some y→io x y
  | [],[],_=>⟨rfl,by simp⟩
  | x::r,y::l,h=>by
    simp only [iF] at h
    obtain ⟨h1,h2⟩:=iX h.2
    refine ⟨by simp [h1],fun j a b ha hb=>?_⟩
    match j with
    | 0=>simp at ha hb;subst ha;subst hb;exact h.1
    | j+1=>exact h2 j a b (by simpa using ha) (by simpa using hb)
  | [],_::_,h=>by simp [iF] at h
  | _::_,[],h=>by simp [iF] at h
theorem uO:∀ {xs ys:List (List DV)},kr xs ys→xs.length=ys.length∧∀ (j:Nat) (x y:List DV),xs[j]?=some x→ys[j]?=some y→iF x y
  | [],[],_=>⟨rfl,by simp⟩
  | x::r,y::l,h=>by
    simp only [kr] at h
    obtain ⟨h1,h2⟩:=uO h.2
    refine ⟨by simp [h1],fun j a b ha hb=>?_⟩
    match j with
    | 0=>simp at ha hb;subst ha;subst hb;exact h.1
    | j+1=>exact h2 j a b (by simpa using ha) (by simpa using hb)
  | [],_::_,h=>by simp [kr] at h
  | _::_,[],h=>by simp [kr] at h
theorem ll:∀ {xs ys:List AV},gk xs ys→xs.length=ys.length∧∀ (j:Nat) (x y:AV),xs[j]?=some x→ys[j]?=some y→cY x y
  | [],[],_=>⟨rfl,by simp⟩
  | x::r,y::l,h=>by
    simp only [gk] at h
    obtain ⟨h1,h2⟩:=ll h.2
    refine ⟨by simp [h1],fun j a b ha hb=>?_⟩
    match j with
    | 0=>simp at ha hb;subst ha;subst hb;exact h.1
    | j+1=>exact h2 j a b (by simpa using ha) (by simpa using hb)
  | [],_::_,h=>by simp [gk] at h
  | _::_,[],h=>by simp [gk] at h
theorem HH {ok:Nat→Prop} {w:World} {x:DV} {v:Value} (h:RepD ok w x v):∀ y,io x y→RepD ok w y v:=by
  induction h with
  | int k n => intro y hc;have:DV.int k n=y:=by cases y<;>(simp only [io] at hc;exact hc)
               subst this;exact .int k n
  | bool b => intro y hc;have:DV.bool b=y:=by cases y<;>(simp only [io] at hc;exact hc)
              subst this;exact .bool b
  | str l => intro y hc;have:DV.str l=y:=by cases y<;>(simp only [io] at hc;exact hc)
             subst this;exact .str l
  | sc v h=>
    intro y hc
    unfold io at hc
    split at hc
    · rename_i sz e
      injection e with e
      subst e
      exact .sl sz [] none 0 (fun _ _=>undef) (by simp) (by simp) (by simp) (by simp)
    · rename_i e;cases e
    · subst hc;exact .sc v h
  | sc0 A=>
    intro y hc
    unfold io at hc
    split at hc
    · rename_i sz e
      exact .sl sz [] A 0 (fun _ _=>undef) (by simp) (by simp) (by simp) (by simp)
    · rename_i e;cases e
    · subst hc;exact .sc0 A
  | sl sz rows A cap u hcap hsz hc hr ih=>
    intro y hco
    unfold io at hco
    split at hco
    · rename_i e;cases e
    · rename_i n rs m qs e
      injection e with e1 e2
      subst e1;subst e2
      obtain ⟨e3,hco⟩:=hco
      subst e3
      obtain ⟨hl,hg⟩:=uO hco
      have back:∀ (i:Nat) (r':List DV),qs[i]?=some r'→∃ r,rows[i]?=some r∧iF r r':=fun i r' hi=>by
        have hlt:i < rows.length:=by rw [hl];exact (List.getElem?_eq_some_iff.1 hi).1
        exact ⟨_,List.getElem?_eq_getElem hlt,hg i _ r' (List.getElem?_eq_getElem hlt) hi⟩
      rw [hl]
      refine .sl sz qs A cap u (by rw [←hl];exact hcap) (fun r' hr'=>?_) (fun hp=>?_) fun i r' hi j c' hj=>?_
      · obtain ⟨i,hi⟩:=List.mem_iff_getElem?.1 hr'
        obtain ⟨r,h1,h2⟩:=back i r' hi
        rw [←(iX h2).1];exact hsz r (List.mem_of_getElem? h1)
      · obtain ⟨b,o,h1,h2,h3⟩:=hc (by rw [hl];exact hp)
        refine ⟨b,o,h1,h2,fun i r' hi j c' hj=>?_⟩
        obtain ⟨r,h4,h5⟩:=back i r' hi
        have hlt:j < r.length:=by rw [(iX h5).1];exact (List.getElem?_eq_some_iff.1 hj).1
        exact h3 i r h4 j _ (List.getElem?_eq_getElem hlt)
      · obtain ⟨r,h4,h5⟩:=back i r' hi
        have hlt:j < r.length:=by rw [(iX h5).1];exact (List.getElem?_eq_some_iff.1 hj).1
        exact ih i r h4 j _ (List.getElem?_eq_getElem hlt) c' ((iX h5).2 j _ c' (List.getElem?_eq_getElem hlt) hj)
    · subst hco;exact .sl sz rows A cap u hcap hsz hc hr
theorem qj {ρ:List (Option (Nat×Nat))} {ok:Nat→Prop} {w:World} {x:AV} {u:Value} (h:RepV ρ ok w x u):∀ y,cY x y→RepV ρ ok w y u:=by
  induction h with
  | agg cs us hl h1 hr ih=>
    intro y hc
    unfold cY at hc
    split at hc
    · rename_i e;cases e
    · rename_i xs ys e
      injection e with e
      subst e
      obtain ⟨q1,q2⟩:=ll hc
      refine .agg _ _ (by rw [hl,q1]) h1 fun j c u hcj hu=>?_
      have hj:j < cs.length:=by rw [q1];exact (List.getElem?_eq_some_iff.1 hcj).1
      exact ih j _ u (List.getElem?_eq_getElem hj) hu c (q2 j _ c (List.getElem?_eq_getElem hj) hcj)
    · rename_i e;cases e
    · subst hc;exact .agg cs us hl h1 hr
  | d x v h=>
    intro y hc
    unfold cY at hc
    split at hc
    · rename_i a b e
      injection e with e
      subst e
      rcases hc with hc | hc
      · subst hc;exact .d _ _ h
      · exact .d _ _ (HH h _ hc)
    · rename_i e;cases e
    · rename_i e;cases e
    · subst hc;exact .d x v h
  | tup cs us hl hr ih=>
    intro y hc
    unfold cY at hc
    split at hc
    · rename_i e;cases e
    · rename_i e;cases e
    · rename_i xs ys e
      injection e with e
      subst e
      obtain ⟨q1,q2⟩:=ll hc
      refine .tup _ _ (by rw [hl,q1]) fun j c u hcj hu=>?_
      have hj:j < cs.length:=by rw [q1];exact (List.getElem?_eq_some_iff.1 hcj).1
      exact ih j _ u (List.getElem?_eq_getElem hj) hu c (q2 j _ c (List.getElem?_eq_getElem hj) hcj)
    · subst hc;exact .tup cs us hl hr
  | ptr k off b m h => intro y hc;have:AV.ptr k off=y:=by cases y<;>(simp only [cY] at hc;exact hc)
                       subst this;exact .ptr k off b m h
  | rp k sz i off b m h => intro y hc;have:AV.rp k sz i off=y:=by cases y<;>(simp only [cY] at hc;exact hc)
                           subst this;exact .rp k sz i off b m h
  | osl k sz off n b m cap h hm hn => intro y hc;have:AV.osl k sz off n=y:=by cases y<;>(simp only [cY] at hc;exact hc)
                                      subst this;exact .osl k sz off n b m cap h hm hn
  | oslnil k sz A h=>
    intro y hc
    have:AV.osl k sz 0 0=y:=by cases y<;>(simp only [cY] at hc;exact hc)
    subst this;exact .oslnil k sz A h
  | dp row off b o u hb hc' hr => intro y hc;have:AV.dp row off=y:=by cases y<;>(simp only [cY] at hc;exact hc)
                                  subst this;exact .dp row off b o u hb hc' hr
  | clo f first caps us vs hl hl' hr hr' _ _ => intro y hc;have:AV.clo f first caps=y:=by cases y<;>(simp only [cY] at hc;exact hc)
                                                subst this;exact .clo f first caps us vs hl hl' hr hr'
  | gd g v u ht hf _ => intro y hc;have:AV.gd g v=y:=by cases y<;>(simp only [cY] at hc;exact hc)
                        subst this;exact .gd g v u ht hf
  | mp k b m h => intro y hc;have:AV.mp k=y:=by cases y<;>(simp only [cY] at hc;exact hc)
                  subst this;exact .mp k b m h
  | any u => intro y hc;have:AV.any=y:=by cases y<;>first | rfl | (simp only [cY] at hc;exact hc)
             subst this;exact .any u
mutual
theorem lK:∀ (x:AV),cY x x
  | .d x=>by simp [cY]
  | .agg xs=>by simp only [cY];exact lL xs
  | .tup xs=>by simp only [cY];exact lL xs
  | .ptr _ _=>by simp only [cY]
  | .rp _ _ _ _=>by simp only [cY]
  | .osl _ _ _ _=>by simp only [cY]
  | .dp _ _=>by simp only [cY]
  | .clo _ _ _=>by simp only [cY]
  | .gd _ _=>by simp only [cY]
  | .mp _=>by simp only [cY]
  | .any=>by simp only [cY]
theorem lL:∀ (xs:List AV),gk xs xs
  | []=>by simp only [gk]
  | x::r=>by simp only [gk];exact ⟨lK x,lL r⟩
end
theorem ab.coe {P:Program} {hp:List ABlk} {g:FuncId} {xs ys:List AV} {R:AV→List ABlk→Prop} (c:ab P hp g ys R) (h:gk xs ys):ab P hp g xs R:=by
  refine ⟨c.1,fun E w us h1 h2 h3=>c.2 E w us h1 h2 ?_⟩
  obtain ⟨q1,q2⟩:=ll h
  refine ⟨by rw [h3.1,q1],fun j y u hy hu=>?_⟩
  have hj:j < xs.length:=by rw [q1];exact (List.getElem?_eq_some_iff.1 hy).1
  exact qj (h3.2 j _ u (List.getElem?_eq_getElem hj) hu) y (q2 j _ y (List.getElem?_eq_getElem hj) hy)
theorem ag.coe {np:Nat} {hp:List ABlk} {v v':AV} {R:AV→List ABlk→Prop} (hc:cY v v') (h:ag np hp v' R):ag np hp v R:=
  fun E ρ w u h1 h2 h3 h4=>h E ρ w u h1 h2 h3 (qj h4 v' hc)
theorem KG (x:DV):ai (.d x)=.d x:=rfl
theorem Dh (x:List AV):ai (.agg x)=.agg x:=rfl
theorem Eh (x:List AV):ai (.tup x)=.tup x:=rfl
theorem C5 (k o:Nat):ai (.ptr k o)=.ptr k o:=rfl
theorem Hq (k:Nat):ai (.mp k)=.mp k:=rfl
theorem HV (k s i o:Nat):ai (.rp k s i o)=.rp k s i o:=rfl
theorem D5 (k s i o:Nat):ai (.osl k s i o)=.osl k s i o:=rfl
theorem E4 (r:List DV) (o:Nat):ai (.dp r o)=.dp r o:=rfl
theorem Ek (f:FuncId) (a b:List AV):ai (.clo f a b)=.clo f a b:=rfl
theorem EP (g:Bool) (v:AV):ai (.gd g v)=v:=rfl
theorem C0:ai .any=.any:=rfl
theorem Lp (x:DV):cI (.d x)=True:=rfl
theorem HI (x:List AV):cI (.agg x)=True:=rfl
theorem EE (x:List AV):cI (.tup x)=True:=rfl
theorem GH (k o:Nat):cI (.ptr k o)=True:=rfl
theorem Jc (k:Nat):cI (.mp k)=True:=rfl
theorem Ji (k s i o:Nat):cI (.rp k s i o)=True:=rfl
theorem FG (k s i o:Nat):cI (.osl k s i o)=True:=rfl
theorem Kb (r:List DV) (o:Nat):cI (.dp r o)=True:=rfl
theorem HN (f:FuncId) (a b:List AV):cI (.clo f a b)=True:=rfl
theorem J7 (g:Bool) (v:AV):cI (.gd g v)=(g=true):=rfl
theorem E5:cI .any=True:=rfl
theorem TI.agg_mk (a b:Nat) (z:List DV) (k:TK) (c:List TK):TI.agg { size:=a,bytes:=b,zero:=z,kind:=k,cmp:=c }=(match k with | .struct _=>true | .array _ _=>true | _=>false):=rfl
theorem HX (t:Nat):bR [] t=.any:=rfl
theorem Eo (k:Nat) (v:AV) (r:List (Nat×AV)) (t:Nat):bR ((k,v)::r) t=if k=t then v else bR r t:=rfl
theorem Ir (s:ASt) (t:Tmp):au s (.tmp t)=bR s.env t:=rfl
theorem GI (s:ASt) (k:IntKind) (n:Int):au s (.const (.int k n))=.d (.int k n):=rfl
theorem DS (s:ASt) (b:Bool):au s (.const (.bool b))=.d (.bool b):=rfl
theorem Gr (s:ASt) (b:ByteArray):au s (.const (.string b))=.d (.str b.data.toList):=rfl
theorem zi (s:ASt):au s (.const (.slice none 0 0))=.d (.sc (.slice none 0 0)):=rfl
theorem yq (s:ASt):au s (.const (.pointer none))=.d (.sc (.pointer none)):=rfl
theorem Et (s:ASt) (f:FuncId):au s (.func f)=.d (.sc (.func (.func f) #[] #[])):=rfl
theorem GC (P:Program) (T:TypeId→TI) (ops:Array Oper) (Q:ASt→Prop) (s:ASt):AG P T ops Q [] s=Q s:=rfl
theorem D3 (P:Program) (T:TypeId→TI) (ops:Array Oper) (Q:ASt→Prop) (o:Oper) (r:List Oper) (s:ASt):AG P T ops Q (o::r) s=kX P T ops s o (AG P T ops Q r):=rfl
theorem Ej (P:Program) (T:TypeId→TI) (ops:Array Oper) (Q:ASt→Prop) (s:ASt):nV P T ops Q [] s=Q s:=rfl
theorem zM (P:Program) (T:TypeId→TI) (ops:Array Oper) (Q:ASt→Prop) (o:Oper) (r:List Oper) (s:ASt):nV P T ops Q (o::r) s=fm P T ops s o (nV P T ops Q r):=rfl
theorem Dj (p:Plan):Plan.takes [] p=p:=rfl
theorem A3 (k:Nat) (ks:List Nat) (p:Plan):Plan.takes (k::ks) p=.take k (Plan.takes ks p):=rfl
theorem AQ (P:Program) (T:TypeId→TI) (ops:Array Oper) (Q:ASt→Prop) (s:ASt):eH P T ops Q .done s=Q s:=rfl
theorem Ay (P:Program) (T:TypeId→TI) (ops:Array Oper) (Q:ASt→Prop) (k:Nat) (p:Plan) (s:ASt):eH P T ops Q (.take k p) s=ex P T ops s ops[k]? (eH P T ops Q p):=rfl
theorem Aw (P:Program) (T:TypeId→TI) (ops:Array Oper) (Q:ASt→Prop) (k k':Nat) (p p':Plan) (s:ASt):eH P T ops Q (.fork k p k' p') s=(ex P T ops s ops[k]? (eH P T ops Q p)∧ex P T ops s ops[k']? (eH P T ops Q p')):=rfl
theorem wK (P:Program) (T:TypeId→TI) (ops:Array Oper) (Q:ASt→Prop) (k k' k2:Nat) (p p' p2:Plan) (s:ASt):eH P T ops Q (.forks k p k' p' k2 p2) s=(ex P T ops s ops[k]? (eH P T ops Q p)∧ex P T ops s ops[k']? (eH P T ops Q p')∧ex P T ops s ops[k2]? (eH P T ops Q p2)):=rfl
theorem xr (P:Program) (T:TypeId→TI) (ops:Array Oper) (Q:ASt→Prop) (o:Oper) (s:ASt):ex P T ops s (some o) Q=bif dA o.op then kX P T ops s o Q else fm P T ops s o Q:=rfl
theorem Ev (P:Program) (T:TypeId→TI) (ops:Array Oper) (Q:ASt→Prop) (s:ASt):ik P T ops Q [] s=Q s:=rfl
theorem A0 (P:Program) (T:TypeId→TI) (ops:Array Oper) (Q:ASt→Prop) (o:Oper) (r:List Oper) (s:ASt):ik P T ops Q (o::r) s=bif dA o.op then kX P T ops s o (ik P T ops Q r) else fm P T ops s o (ik P T ops Q r):=rfl
theorem Dw:iu []=True:=rfl
theorem zk (x:AV) (r:List AV):iu (x::r)=(cI x∧iu r):=rfl
theorem FX (hp:List ABlk):cJ hp []=[]:=rfl
theorem D9 (hp:List ABlk) (x:AV) (r:List AV):cJ hp (x::r)=aZ hp x::cJ hp r:=rfl
theorem AA (hp:List ABlk):bN hp []=True:=rfl
theorem yj (hp:List ABlk) (x:AV) (r:List AV):bN hp (x::r)=(bJ hp x∧bN hp r):=rfl
theorem CE:cf []=True:=rfl
theorem Bn (x:AV) (r:List AV):cf (x::r)=(bV x∧cf r):=rfl
theorem HL:cU []=[]:=rfl
theorem Ct (x:AV) (r:List AV):cU (x::r)=dO x++cU r:=rfl
theorem FE (f:Nat→Nat):renL f []=[]:=rfl
theorem Dz (f:Nat→Nat) (x:AV) (r:List AV):renL f (x::r)=renV f x::renL f r:=rfl
theorem JU (n:Nat):inL n []=True:=rfl
theorem Gi (n:Nat) (x:AV) (r:List AV):inL n (x::r)=(inV n x∧inL n r):=rfl
theorem xT (hp:List ABlk):killIds [] hp=hp:=rfl
theorem vD (k:Nat) (r:List Nat) (hp:List ABlk):killIds (k::r) hp=killIds r (hp.set k .dead):=rfl
theorem CL (f:Nat→Nat) (n:Nat) (e:List (Nat×AV)):ot f n e []=True:=rfl
theorem y8 (f:Nat→Nat) (n:Nat) (e:List (Nat×AV)) (t:Nat) (v:AV) (r:List (Nat×AV)):ot f n e ((t,v)::r)=((bR e t=renV f v∧inV n v)∧ot f n e r):=rfl
theorem IA (f:Nat→Nat) (n:Nat) (hp:List ABlk) (i:Nat):ls f n hp i []=True:=rfl
theorem Dg (f:Nat→Nat) (n:Nat) (hp:List ABlk) (i:Nat) (x:ABlk) (r:List ABlk):ls f n hp i (x::r)=((x=.dead∨(hp[f i]?=some (renB f x)∧inB n x))∧ls f n hp (i+1) r):=rfl
theorem Ie (hp:List ABlk) (e:List (Nat×AV)):Jp hp e []=True:=rfl
theorem Dl (hp:List ABlk) (e:List (Nat×AV)) (t:Nat) (v:AV) (r:List (Nat×AV)):Jp hp e ((t,v)::r)=(((bR e t=v)∨(bJ hp (bR e t)∧bV (aZ hp (bR e t))∧v=aZ hp (bR e t)))∧Jp hp e r):=rfl
theorem Df (T:TypeId→TI) (s:ASt):aS T s []=(True,[]):=rfl
theorem yT (T:TypeId→TI) (s:ASt) (r:ResultVar) (l:List ResultVar):aS T s (r::l)=((qV T s r).ok∧(aS T s l).1,(qV T s r).v::(aS T s l).2):=rfl
theorem Gu (k:Nat):gl k []=[]:=rfl
theorem DF (k:Nat) (x:AV) (r:List AV):gl k (x::r)=(k,x)::gl (k+1) r:=rfl
theorem yU (sz:Nat) (cs:List AV):og sz 0 cs=some []:=rfl
theorem A9 (sz n:Nat) (cs:List AV):og sz (n+1) cs=(match ji (cs.take sz),og sz n (cs.drop sz) with | some r,some l=>some (r::l) | _,_=>none):=rfl
theorem DY:ji []=some []:=rfl
theorem Ao (x:AV) (r:List AV):ji (x::r)=(match GX x,ji r with | some y,some l=>some (y::l) | _,_=>none):=rfl
theorem ve:ay [] [] []=(True,true):=rfl
theorem sV (k:TK) (ks:List TK) (x y:AV) (xs ys:List AV):ay (k::ks) (x::xs) (y::ys)=((eU k x y).1∧(ay ks xs ys).1,(eU k x y).2&&(ay ks xs ys).2):=rfl
theorem D4 (p:Nat→Option (Nat×Nat)) (cs:List AV):fq p [] cs=(True,cs):=rfl
theorem zm (p:Nat→Option (Nat×Nat)) (i:Nat) (v:AV) (r:List (Nat×AV)) (cs:List AV):fq p ((i,v)::r) cs=(match p i with | none=>(False,cs) | some (off,size)=>((acells v).length=size∧off+(acells v).length≤cs.length∧(ml v=false)∧(fq p r (cs.take off++acells v++cs.drop (off+(acells v).length))).1,(fq p r (cs.take off++acells v++cs.drop (off+(acells v).length))).2)):=rfl
theorem DH:fC []=some []:=rfl
theorem AP (x:AV) (r:List AV):fC (x::r)=(match aY x,fC r with | some u,some l=>some (u::l) | _,_=>none):=rfl
theorem Ia:gk [] []=True:=rfl
theorem Dn (x y:AV) (r l:List AV):gk (x::r) (y::l)=(cY x y∧gk r l):=rfl
theorem Bd (f:Nat→Nat) (hp:List ABlk) (r:List ABlk):bH f hp [] r=hp:=by cases r<;>rfl
theorem wL (f:Nat→Nat) (hp:List ABlk) (i:Nat) (m:List Nat) (x:ABlk) (r:List ABlk):bH f hp (i::m) (x::r)=bH f (hp.set i (renB f x)) m r:=rfl
theorem vu:killRows []=[]:=rfl
theorem rV (sz:Nat) (rs:List (List DV)) (r:List ABlk):killRows (.rows sz rs::r)=.dead::killRows r:=rfl
theorem ru (cs:List AV) (r:List ABlk):killRows (.cells cs::r)=.cells cs::killRows r:=rfl
theorem sW (r:List ABlk):killRows (.dead::r)=.dead::killRows r:=rfl
theorem LH (hp:List ABlk) (x:DV):aZ hp (.d x)=.d x:=rfl
theorem G1 (hp:List ABlk) (x:List AV):aZ hp (.agg x)=.agg (cJ hp x):=rfl
theorem G8 (hp:List ABlk) (x:List AV):aZ hp (.tup x)=.tup (cJ hp x):=rfl
theorem G0 (hp:List ABlk) (k o:Nat):aZ hp (.ptr k o)=.ptr k o:=rfl
theorem Ki (hp:List ABlk) (k:Nat):aZ hp (.mp k)=.mp k:=rfl
theorem IW (hp:List ABlk) (k sz i o:Nat):aZ hp (.rp k sz i o)=.rp k sz i o:=rfl
theorem rK (hp:List ABlk) (k sz o n:Nat):aZ hp (.osl k sz o n)=(match hp[k]? with | some (.rows _ rs)=>.d (.sl sz ((rs.drop o).take n)) | _=>.any):=rfl
theorem Km (hp:List ABlk) (w:List DV) (o:Nat):aZ hp (.dp w o)=.dp w o:=rfl
theorem FP (hp:List ABlk) (g:FuncId) (x y:List AV):aZ hp (.clo g x y)=.clo g x y:=rfl
theorem Kd (hp:List ABlk) (g:Bool) (v:AV):aZ hp (.gd g v)=.gd g v:=rfl
theorem Fl (hp:List ABlk) :aZ hp (.any)=.any:=rfl
theorem Je (hp:List ABlk) (x:DV):bJ hp (.d x)=True:=rfl
theorem DX (hp:List ABlk) (x:List AV):bJ hp (.agg x)=bN hp x:=rfl
theorem Cy (hp:List ABlk) (x:List AV):bJ hp (.tup x)=bN hp x:=rfl
theorem Cq (hp:List ABlk) (k o:Nat):bJ hp (.ptr k o)=True:=rfl
theorem Hf (hp:List ABlk) (k:Nat):bJ hp (.mp k)=True:=rfl
theorem FO (hp:List ABlk) (k sz i o:Nat):bJ hp (.rp k sz i o)=True:=rfl
theorem o7 (hp:List ABlk) (k sz o n:Nat):bJ hp (.osl k sz o n)=(match hp[k]? with | some (.rows sz' rs)=>sz=sz'∧o+n≤rs.length | _=>False):=rfl
theorem HA (hp:List ABlk) (w:List DV) (o:Nat):bJ hp (.dp w o)=True:=rfl
theorem D0 (hp:List ABlk) (g:FuncId) (x y:List AV):bJ hp (.clo g x y)=True:=rfl
theorem FF (hp:List ABlk) (g:Bool) (v:AV):bJ hp (.gd g v)=True:=rfl
theorem D8 (hp:List ABlk) :bJ hp (.any)=True:=rfl
theorem LJ  (x:DV):bV (.d x)=True:=rfl
theorem FN  (x:List AV):bV (.agg x)=cf x:=rfl
theorem Id  (x:List AV):bV (.tup x)=cf x:=rfl
theorem GY  (k o:Nat):bV (.ptr k o)=False:=rfl
theorem KD  (k:Nat):bV (.mp k)=False:=rfl
theorem I4  (k sz i o:Nat):bV (.rp k sz i o)=False:=rfl
theorem GZ  (k sz o n:Nat):bV (.osl k sz o n)=False:=rfl
theorem KA  (w:List DV) (o:Nat):bV (.dp w o)=True:=rfl
theorem E3  (g:FuncId) (x y:List AV):bV (.clo g x y)=False:=rfl
theorem Ja  (g:Bool) (v:AV):bV (.gd g v)=False:=rfl
theorem F8  :bV (.any)=True:=rfl
theorem LM  (x:DV):dO (.d x)=[]:=rfl
theorem Is  (x:List AV):dO (.agg x)=cU x:=rfl
theorem Hi  (x:List AV):dO (.tup x)=cU x:=rfl
theorem EZ  (k o:Nat):dO (.ptr k o)=[]:=rfl
theorem IL  (k:Nat):dO (.mp k)=[]:=rfl
theorem JP  (k sz i o:Nat):dO (.rp k sz i o)=[]:=rfl
theorem GR  (k sz o n:Nat):dO (.osl k sz o n)=[k]:=rfl
theorem Kz  (w:List DV) (o:Nat):dO (.dp w o)=[]:=rfl
theorem Hm  (g:FuncId) (x y:List AV):dO (.clo g x y)=[]:=rfl
theorem KE  (g:Bool) (v:AV):dO (.gd g v)=[]:=rfl
theorem Fq  :dO (.any)=[]:=rfl
theorem Lj (f:Nat→Nat) (x:DV):renV f (.d x)=.d x:=rfl
theorem HJ (f:Nat→Nat) (x:List AV):renV f (.agg x)=.agg (renL f x):=rfl
theorem EI (f:Nat→Nat) (x:List AV):renV f (.tup x)=.tup (renL f x):=rfl
theorem FB (f:Nat→Nat) (k o:Nat):renV f (.ptr k o)=.ptr (f k) o:=rfl
theorem KC (f:Nat→Nat) (k:Nat):renV f (.mp k)=.mp (f k):=rfl
theorem JD (f:Nat→Nat) (k sz i o:Nat):renV f (.rp k sz i o)=.rp (f k) sz i o:=rfl
theorem GB (f:Nat→Nat) (k sz o n:Nat):renV f (.osl k sz o n)=.osl (f k) sz o n:=rfl
theorem KB (f:Nat→Nat) (w:List DV) (o:Nat):renV f (.dp w o)=.dp w o:=rfl
theorem F5 (f:Nat→Nat) (g:FuncId) (x y:List AV):renV f (.clo g x y)=.clo g (renL f x) (renL f y):=rfl
theorem Jm (f:Nat→Nat) (g:Bool) (v:AV):renV f (.gd g v)=.gd g (renV f v):=rfl
theorem Fw (f:Nat→Nat) :renV f (.any)=.any:=rfl
theorem Nj (m:Nat) (x:DV):inV m (.d x)=True:=rfl
theorem Kp (m:Nat) (x:List AV):inV m (.agg x)=inL m x:=rfl
theorem Jt (m:Nat) (x:List AV):inV m (.tup x)=inL m x:=rfl
theorem JR (m:Nat) (k o:Nat):inV m (.ptr k o)=(k < m):=rfl
theorem Lk (m:Nat) (k:Nat):inV m (.mp k)=(k < m):=rfl
theorem Lh (m:Nat) (k sz i o:Nat):inV m (.rp k sz i o)=(k < m):=rfl
theorem Jl (m:Nat) (k sz o n:Nat):inV m (.osl k sz o n)=(k < m):=rfl
theorem Mb (m:Nat) (w:List DV) (o:Nat):inV m (.dp w o)=True:=rfl
theorem KP (m:Nat) (g:FuncId) (x y:List AV):inV m (.clo g x y)=(inL m x∧inL m y):=rfl
theorem Lb (m:Nat) (g:Bool) (v:AV):inV m (.gd g v)=inV m v:=rfl
theorem IM (m:Nat) :inV m (.any)=True:=rfl
theorem DB (k:IntKind) (n:Int):aY (.d (.int k n))=some (.int k n):=rfl
theorem yZ (b:Bool):aY (.d (.bool b))=some (.bool b):=rfl
theorem Dq (l:List UInt8):aY (.d (.str l))=some (aG l):=rfl
theorem CB (vs:List AV):aY (.tup vs)=(fC vs).map fun l=>.tuple l.toArray:=rfl
theorem Es (cs:List AV):aY (.agg cs)=(fC cs).bind fun l=>if l.all (·.oneCell') then some (.agg l.toArray) else none:=rfl
theorem Ln (x y:DV):cY (.d x) (.d y)=(x=y∨io x y):=by simp only [cY]
theorem Ii (x y:List AV):cY (.agg x) (.agg y)=gk x y:=by simp only [cY]
theorem Hh (x y:List AV):cY (.tup x) (.tup y)=gk x y:=by simp only [cY]
theorem Gy (n:Nat):io (.sc (.slice none 0 0)) (.sl n [])=True:=by simp only [io]
theorem Ku (n m:Nat) (l r:List (List DV)):io (.sl n l) (.sl m r)=(n=m∧kr l r):=by simp only [io]
theorem H1 (k:IntKind) (n:Int) (y:DV):io (.int k n) y=(.int k n=y):=by cases y<;>simp [io]
theorem C3 (b:Bool) (y:DV):io (.bool b) y=(.bool b=y):=by cases y<;>simp [io]
theorem Fh (l:List UInt8) (y:DV):io (.str l) y=(.str l=y):=by cases y<;>simp [io]
theorem CJ:kr [] []=True:=by simp only [kr]
theorem Ap (r q:List DV) (rs qs:List (List DV)):kr (r::rs) (q::qs)=(iF r q∧kr rs qs):=by simp only [kr]
theorem DG:iF [] []=True:=by simp only [iF]
theorem AY (x y:DV) (r q:List DV):iF (x::r) (y::q)=(io x y∧iF r q):=by simp only [iF]
theorem Ep (k k':IntKind) (a b:Int):(DV.int k a=DV.int k' b)=(k=k'∧a=b):=by simp
theorem Bf (a b:Bool):(DV.bool a=DV.bool b)=(a=b):=by simp
attribute [go_sem] KG Dh Eh C5 Hq HV D5 E4 Ek EP C0 Lp HI EE GH Jc Ji FG Kb HN J7 E5
attribute [go_sem] GC D3 Ej zM Ev A0 CG zh Dj A3 AQ Ay Aw wK xr Dw zk FX D9 AA yj CE Bn HL Ct FE Dz JU Gi xT vD CL y8 IA Dg Ie Dl Df yT Gu DF yU A9 DY Ao ve sV D4 zm DH AP Ia Dn Bd wL vu rV ru sW LH G1 G8 G0 Ki IW rK Km FP Kd Fl Je DX Cy Cq Hf FO o7 HA D0 FF D8 LJ FN Id GY KD I4 GZ KA E3 Ja F8 LM Is Hi EZ IL JP GR Kz Hm KE Fq Lj HJ EI FB KC JD GB KB F5 Jm Fw Nj Kp Jt JR Lk Lh Jl Mb KP Lb IM DB yZ Dq CB Es Ln Ii Hh Gy Ku H1 C3 Fh CJ Ap DG AY Ep Bf or_self true_or or_true or_false false_or
attribute [go_sem] qT.eq_def vd.eq_def AH.eq_def eU.eq_def kX.eq_def vj.eq_def rA.eq_def fm.eq_def nl.eq_def qA.eq_def qP.eq_def lv.eq_def MC.eq_def eG.eq_def fh.eq_def mS.eq_def fc.eq_def g1.eq_def g2.eq_def xw.eq_def Iu.eq_def sD.eq_def su.eq_def nQ.eq_def aun.eq_def wG.eq_def It.eq_def LB.eq_def pX.eq_def fp.eq_def jV.eq_def Ed.eq_def CZ.eq_def ub.eq_def dA.eq_def HS.eq_def amm.eq_def EY.eq_def apart.eq_def tB.eq_def lf.eq_def FR.eq_def pp.eq_def IF.eq_def Ga.eq_def rC.eq_def Bc.eq_def dR.eq_def renB.eq_def inB.eq_def mAt.eq_def br.eq_def db.eq_def aX.eq_def dB.eq_def acells.eq_def ml.eq_def oY.eq_def kR.eq_def mL.eq_def AZ.eq_def dk.eq_def pH.eq_def spl.eq_def mC.eq_def GX.eq_def pP.eq_def srcRows.eq_def xR.eq_def uq.eq_def jG.eq_def mK.eq_def Ly.eq_def ua.eq_def Fd.eq_def xj vH jN.eq_def JL.eq_def xD.eq_def mJ.eq_def qV.eq_def cQ.eq_def gf.eq_def
attribute [go_sem] Ir GI DS Gr zi yq Et HX Eo I2 sH TI.agg_mk
attribute [go_sem] IntKind.bits
attribute [go_sem] if_true if_false ite_true ite_false true_and and_true false_and and_false List.length_cons List.length_nil List.map_cons List.map_nil List.nil_append List.cons_append List.append_nil List.getElem?_cons_zero List.getElem?_cons_succ List.getElem?_nil
attribute [go_sem] List.drop_zero List.drop_succ_cons List.take_succ_cons List.take_zero List.take_nil List.drop_nil List.set_cons_zero List.set_cons_succ List.set_nil List.getD_cons_zero List.getD_cons_succ Option.map_some Option.map_none Option.bind_some Option.bind_none Option.getD_some Option.getD_none
attribute [go_sem] Bool.false_eq_true Bool.not_true Bool.not_false Bool.true_and Bool.and_true Bool.false_and Bool.and_false Bool.true_or Bool.or_true Bool.false_or Bool.or_false cond_true cond_false Bool.cond_true_left Bool.cond_false_right Bool.cond_true_right Bool.cond_false_left
attribute [go_sem] forall_const implies_true false_implies imp_self List.length_append List.length_map List.length_set List.length_replicate List.flatten_cons List.flatten_nil List.replicate_succ List.replicate_zero List.toList_toArray List.getElem?_toArray List.size_toArray decide_true decide_false
def qe (id:Nat) (N:ASt→Prop) (Q:Exit→ASt→Prop):Exit→ASt→Prop
  | .normal,s=>N s
  | .exit i,s=>if i=id then N s else Q (.exit i) s
  | e,s=>Q e s
section
variable {P:Program} {T:TypeId→TI} {s:ASt} {Q:Exit→ASt→Prop} {x y z:Code} {N:ASt→Prop}
theorem AWP.region {id:Nat} {l:List Oper} (hT:an P T) (h:∀ K:ASt→Prop,(∀ s',Q .normal s'→K s')→AG P T l.toArray K l s):AWP P (.region id l.toArray false) s Q:=fun _ ρ a w hr=>
  wp_region_lit (sm hT (fun s' ρ' a' w' hs hr'=>⟨s',ρ',hr',hs⟩) l s ρ a w (h _ fun _ hq=>hq) hr)
theorem AWP.quiet {id:Nat} {l:List Oper} (hm:P.follows .mixedOrders=true) (hT:an P T) (hB:Region.lexB .any l.toArray=true) (h:∀ K:ASt→Prop,(∀ s',Q .normal s'→K s')→nV P T l.toArray K l s) :
    AWP P (.region id l.toArray true) s Q:=fun E ρ a w hr=>by
  refine wp_region_quiet (C:=fun w'=>Below w.heap.size w w') hm hB ⟨rfl,rfl,rfl,Nat.le_refl _,fun _ _=>rfl⟩ (pK hT (fun s' a' hs hr'=>?_) _ s a (h _ fun _ hq=>hq) hr)
  intro w' hb
  exact ⟨s',ρ,hr'.below hb,hs⟩
theorem AWP.cond {c:Operand} {b:Bool} (hc:au s c=.d (.bool b)) (h1:b=true→AWP P x s Q) (h2:b=false→AWP P y s Q):AWP P (.cond c x y) s Q:=fun E ρ a w hr=>by
  have h:=bC hr c
  rw [hc] at h
  generalize hu:a.eval c=u at h
  cases h with | d _ _ h=>cases h with | bool _=>
  cases b with
  | true=>exact wp_cond_true hu (h1 rfl E ρ a w hr)
  | false=>exact wp_cond_false hu (h2 rfl E ρ a w hr)
theorem AWP.block {id:Nat} (h:AWP P x s (qe id (Q .normal) Q)):AWP P (.block id x) s Q:=fun E ρ a w hr=>by
  refine wp_block (wpm (h E ρ a w hr) fun e a' w' hh=>?_)
  obtain ⟨s',ρ',hr',hq⟩:=hh
  cases e with
  | exit i=>
    simp only [qe] at hq
    simp only [Exit.inBlock]
    split
    · rename_i hi;rw [if_pos hi] at hq;exact ⟨s',ρ',hr',hq⟩
    · rename_i hi;rw [if_neg hi] at hq;exact ⟨s',ρ',hr',hq⟩
  | _=>exact ⟨s',ρ',hr',hq⟩
theorem AWP.skip (h:Q .normal s):AWP P .skip s Q:=fun _ ρ _ _ hr=>wp_skip ⟨s,ρ,hr,h⟩
theorem AWP.ret (h:Q .ret s):AWP P .ret s Q:=fun _ ρ _ _ hr=>wp_ret ⟨s,ρ,hr,h⟩
theorem AWP.exit {id:Nat} (h:Q (.exit id) s):AWP P (.exit id) s Q:=fun _ ρ _ _ hr=>wp_exit ⟨s,ρ,hr,h⟩
theorem lM (h:N s):gf N Q .normal s:=h
theorem lW (h:Q .ret s):gf N Q .ret s:=h
theorem lH {i:Nat} (h:Q (.exit i) s):gf N Q (.exit i) s:=h
theorem ph {id:Nat} (h:N s):qe id N Q .normal s:=h
theorem oM {id:Nat} (h:Q .ret s):qe id N Q .ret s:=h
theorem oE {id:Nat} (h:N s):qe id N Q (.exit id) s:=by simp only [qe,if_true];exact h
theorem ap {id i:Nat} (hi:i≠id) (h:Q (.exit i) s):qe id N Q (.exit i) s:=by simp only [qe,if_neg hi];exact h
theorem CR {e:Exit} {rs:List ResultVar} {R:AV→List ABlk→Prop} (he:e=.ret∨e=.normal) (h0:s.np=0) (h1:(aS T s rs).1)
    (h2:bJ s.hp (cQ (aS T s rs).2)) (h3:bV (aZ s.hp (cQ (aS T s rs).2))) (hR:R (aZ s.hp (cQ (aS T s rs).2)) []):mJ T rs R e s:=by
  have:ag s.np s.hp (cQ (aS T s rs).2) R:=by rw [h0];exact ag.data h2 h3 hR
  rcases he with rfl | rfl
  · exact ⟨h1,this⟩
  · exact ⟨h1,this⟩
end
end Go.Proofs.YtjcooccnfkfjhaaGreatDoor
