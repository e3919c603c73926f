/- A part of what Mem leans on: texts of this claim, one behind the other. No condition. -/
import Derived.Test.YtjcooccnfkfjhaaGreatDoorMemK3
namespace Go.Proofs.YtjcooccnfkfjhaaGreatDoor
set_option linter.unusedVariables false
set_option linter.unusedSimpArgs false
open Go Go.RowKit
section
variable {P:Program} {ops:Array Oper} {md:Region.Mode} {Q:Exit→Act→World→Prop} {eff grow:Nat→Bool}
def kK (P:Program) (md:Region.Mode) (ops:Array Oper) (Q:Exit→Act→World→Prop) (eff grow:Nat→Bool):Nat→Array Bool→Act→World→Prop
 |0,listed,a,w=>Region.ready md ops listed=[]∧∀ w',Bel w w'→Q .normal a w'
 |f + 1,listed,a,w=>(Region.ready md ops listed=[]→∀ w',Bel w w'→Q .normal a w')∧∀ i∈Region.ready md ops listed,
    if eff i=true then (∀ w',Bel w w'→wpOp P ops Q i (fun a' w2=>(grow i=true→Bel w' w2)∧kK P md ops Q eff grow f (listed.setIfInBounds i true) a' w2) a w')
    else qOp P ops (Bel w) i (fun a'=>kK P md ops Q eff grow f (listed.setIfInBounds i true) a' w) a
theorem kO:∀ (f:Nat) (listed:Array Bool) (a:Act) (w:World),kK P md ops Q eff grow f listed a w→dL P md ops Q eff f listed a w
 |0,_,_,_,h=>h
 | f + 1,listed,a,w,h=>by
   refine ⟨h.1,fun i hi=>?_⟩
   have:=h.2 i hi
   by_cases he:eff i=true
   ·rw [if_pos he] at this ⊢
    exact fun w' hb=>wpOp_mono (fun a' w2 h'=>kO f _ a' w2 h'.2) (this w' hb)
   ·rw [if_neg he] at this ⊢
    exact qOp_mono (fun a' h'=>kO f _ a' w h') this
def cj (P:Program) (ops:Array Oper) (w0:World) (o:Oper) (v:Value) (a:Act):Prop:=
 (Region.wanted o (yielded ops a.tmps)=true∧∀ w,Bel w0 w→o.quietAt P a (Bel w) w v)∨(Region.wanted o (yielded ops a.tmps)=false∧v=undef)
theorem cj.later {w0 w1:World} {o:Oper} {v:Value} {a:Act} (h:cj P ops w0 o v a) (hb:Bel w0 w1):cj P ops w1 o v a:=
 h.imp (fun ⟨h1,h2⟩=>⟨h1,fun w hw=>h2 w (oq hb hw)⟩) id
theorem cj.inn {w0:World} {o:Oper} {v:Value} {a:Act} (h:cj P ops w0 o v a):YieldsIn P ops (Bel w0) o v a:=
 h.imp (fun ⟨h1,h2⟩=>⟨h1,fun w hw=>j0 (fun w' hw'=>oq hw hw') (h2 w hw)⟩) id
theorem cj.of_same {w0:World} {o:Oper} {v:Value} {a a':Act} (hy:cj P ops w0 o v a) (he:execOp a'.eval o=execOp a.eval o)
  (hw:Region.wanted o (yielded ops a'.tmps)=Region.wanted o (yielded ops a.tmps)):cj P ops w0 o v a':=by
 unfold cj Oper.quietAt at *
 rw [he,hw]
 exact hy
theorem DA {C:World→Prop} {w0:World} {j:Nat} {oi oj:Oper} {v:Value} (hj:ops[j]?=some oj) (hap:oi.apart ops oj=true)
  (hsi:∀ cs b,oi.op≠.select cs b) (hsj:∀ cs b,oj.op≠.select cs b) {K:Act→Prop} {a:Act}
  (hy:cj P ops w0 oi v a) (h:qOp P ops C j K (a.put oi.dst v)) :
  qOp P ops C j (fun a'=>cj P ops w0 oi v a'∧K (a'.put oi.dst v)) a:=by
 obtain ⟨h1,h2,h3⟩:=Oper.apart_spec hap
 have keep:∀ (a:Act),cj P ops w0 oi v a→∀ u,cj P ops w0 oi v (a.put oj.dst u):=fun a hy u=>
  hy.of_same (execOp_put oi hsi a oj.dst u h3) (wanted_put oi a oj.dst u h3)
 unfold qOp at *
 simp only [hj] at *
 rw [wanted_put oj a oi.dst v h1] at h
 split
 ·rename_i hw
  simp only [hw,if_true] at h
  obtain ⟨u,hu,hn⟩:=h
  refine ⟨u,fun w hw'=>?_,keep a hy u,by rw [←Act.put_comm a v u h2];exact hn⟩
  have:=hu w hw'
  unfold Oper.quietAt at *
  rwa [execOp_put oj hsj a oi.dst v h1] at this
 ·rename_i hw
  simp only [hw] at h
  exact ⟨keep a hy _,by rw [←Act.put_comm a v undef h2];exact h⟩
theorem BW {w0:World} {j:Nat} {oi oj:Oper} {v:Value} (hj:ops[j]?=some oj) (hap:oi.apart ops oj=true)
  (hsi:∀ cs b,oi.op≠.select cs b) (hsj:∀ cs b,oj.op≠.select cs b)
  (hQ:∀ c a w,¬ Q (.panic c) a w) {K:Act→World→Prop} {a:Act} {w:World}
  (hy:cj P ops w0 oi v a) (h:wpOp P ops Q j K (a.put oi.dst v) w) :
  wpOp P ops Q j (fun a' w'=>cj P ops w0 oi v a'∧K (a'.put oi.dst v) w') a w:=by
 obtain ⟨h1,h2,h3⟩:=Oper.apart_spec hap
 have keep:∀ (a:Act),cj P ops w0 oi v a→∀ u,cj P ops w0 oi v (a.put oj.dst u):=fun a hy u=>
  hy.of_same (execOp_put oi hsi a oj.dst u h3) (wanted_put oi a oj.dst u h3)
 have keepD:∀ d,cj P ops w0 oi v { a with defers:=d::a.defers }:=fun d=>hy.of_same rfl rfl
 unfold wpOp at *
 simp only [hj] at *
 rw [wanted_put oj a oi.dst v h1] at h
 split
 ·rename_i hw
  simp only [hw,if_true] at h
  rcases h with h|⟨hasks,hlets⟩
  case inr=>exact .inr ⟨by unfold Oper.asks at *;rw [execOp_put oj hsj a oi.dst v h1] at hasks;exact hasks,hlets⟩
  refine .inl ?_
  unfold Oper.wp at *
  rw [execOp_put oj hsj a oi.dst v h1] at h
  generalize (execOp a.eval oj).run P w=r at *
  cases r with
  | ok n w'=>
    cases n<;>simp only [Oper.upon] at h ⊢
    case value u=>exact ⟨keep a hy u,by rw [←Act.put_comm a v u h2];exact h⟩
    case skip=>exact ⟨keep a hy _,by rw [←Act.put_comm a v undef h2];exact h⟩
    case defer d=>
     refine ⟨keep _ (keepD d) _,?_⟩
     rw [←Act.put_comm _ v undef h2,←Act.put_defers]
     exact h
    case enter f args=>
     refine Calls.mono h fun e w'' he=>?_
     cases e with
     |returned u=>exact ⟨keep a hy u,by rw [←Act.put_comm a v u h2];exact he⟩
     |panicked c=>exact (hQ _ _ _ he).elim
     |outgrown=>exact he
    case row row args=>exact Rows.mono h fun u w'' he=>⟨keep a hy u,by rw [←Act.put_comm a v u h2];exact he⟩
  | halt x w'=>
    cases x<;>simp only [Oper.upon] at h ⊢
    case panic u=>exact (hQ _ _ _ h).elim
 ·rename_i hw
  simp only [hw] at h
  exact ⟨keep a hy _,by rw [←Act.put_comm a v undef h2];exact h⟩
theorem sx {listed:Array Bool} {j:Nat}:(listed.setIfInBounds j true).getD j true=true:=by
 rcases Nat.lt_or_ge j listed.size with h|h
 ·simp [h]
 ·simp [h]
theorem nI {i:Nat} {oi:Oper} {v:Value} {W:Nat→Bool} (hi:ops[i]?=some oi) (hsel:∀ (j:Nat) (o:Oper) cs b,ops[j]?=some o→o.op≠.select cs b) (hne:eff i=false) (hQ:∀ c a w,¬ Q (.panic c) a w) :
  ∀ (f:Nat) (listed:Array Bool) (a:Act) (w:World),
    (∀ j oj,ops[j]?=some oj→j≠i→listed.getD j true=false→(∀ e∈oj.after,Region.binds md e=true→e.on≠i)→oi.apart ops oj=true)→
    (∀ j oj,ops[j]?=some oj→eff j=true→listed.getD j true=false→W j=true∨grow j=true)→
    (∀ j oj,ops[j]?=some oj→W j=true→∃ e∈oj.after,Region.binds md e=true∧(e.on=i∨(W e.on=true∧listed.getD e.on true=false)))→
    i∈Region.ready md ops listed→cj P ops w oi v a→
    kK P md ops Q eff grow f (listed.setIfInBounds i true) (a.put oi.dst v) w→kK P md ops Q eff grow (f+1) listed a w:=by
 have key:∀ (listed:Array Bool),(∀ j oj,ops[j]?=some oj→W j=true→∃ e∈oj.after,Region.binds md e=true∧(e.on=i∨(W e.on=true∧listed.getD e.on true=false)))→
   i∈Region.ready md ops listed→∀ j,j∈Region.ready md ops listed→W j=false:=by
  intro listed hW hr j hj
  cases hwj:W j with
  |false=>rfl
  | true=>
    obtain ⟨_,oj,hoj,hall⟩:=mem_ready.1 hj
    obtain ⟨e,he,hb,h⟩:=hW j oj hoj hwj
    have h1:=hall e he hb
    have h0:listed.getD e.on true=false:=by
     rcases h with h|h
     ·rw [h];exact (mem_ready.1 hr).1
     ·exact h.2
    rw [iV h0] at h1
    cases h1
 intro f
 induction f with
 | zero=>
   intro listed a w _ hE hW hr hy H
   refine ⟨fun h=>(by rw [h] at hr;cases hr),fun j hj=>?_⟩
   by_cases hji:j=i
   ·subst hji;rw [if_neg (by simp [hne])];exact hy.inn.qOp hi H
   ·have:=ready_mono hj hji
    rw [H.1] at this
    cases this
 | succ f ih=>
   intro listed a w hfree hE hW hr hy H
   refine ⟨fun h=>(by rw [h] at hr;cases hr),fun j hj=>?_⟩
   by_cases hji:j=i
   ·subst hji;rw [if_neg (by simp [hne])];exact hy.inn.qOp hi H
   ·have hwj:=key listed hW hr j hj
    obtain ⟨hjun,oj,hoj,hall⟩:=mem_ready.1 hj
    have h1:=H.2 j (ready_mono hj hji)
    have hnot:∀ e∈oj.after,Region.binds md e=true→e.on≠i:=fun e he hb heq=>by
     have h1:=hall e he hb
     have h0:=(mem_ready.1 hr).1
     rw [heq,iV h0] at h1
     cases h1
    have hun:∀ k,k≠j→(listed.setIfInBounds j true).getD k true=listed.getD k true:=fun k hk=>getD_set_ne true (fun h=>hk h.symm)
    have hfree':∀ k ok,ops[k]?=some ok→k≠i→(listed.setIfInBounds j true).getD k true=false→
      (∀ e∈ok.after,Region.binds md e=true→e.on≠i)→oi.apart ops ok=true:=fun k ok hk hki hu hno=>by
     refine hfree k ok hk hki ?_ hno
     by_cases hjk:k=j
     ·subst hjk;exact hjun
     ·rw [hun k hjk] at hu;exact hu
    have hE':∀ k ok,ops[k]?=some ok→eff k=true→(listed.setIfInBounds j true).getD k true=false→W k=true∨grow k=true:=fun k ok hk he hu=>by
     by_cases hjk:k=j
     ·subst hjk;rw [sx] at hu;cases hu
     ·exact hE k ok hk he (by rw [←hun k hjk];exact hu)
    have hW':∀ k ok,ops[k]?=some ok→W k=true→∃ e∈ok.after,Region.binds md e=true∧(e.on=i∨(W e.on=true∧(listed.setIfInBounds j true).getD e.on true=false)):=fun k ok hk hw=>by
     obtain ⟨e,he,hb,h⟩:=hW k ok hk hw
     refine ⟨e,he,hb,?_⟩
     rcases h with h|⟨h,h'⟩
     ·exact .inl h
     ·refine .inr ⟨h,?_⟩
      rw [hun e.on (fun e'=>by rw [e',hwj] at h;cases h)]
      exact h'
    have hap:=hfree j oj hoj hji hjun hnot
    cases he:eff j with
    | true=>
      have hg:grow j=true:=(hE j oj hoj he hjun).resolve_left (by rw [hwj];simp)
      rw [if_pos rfl]
      rw [he,if_pos rfl] at h1
      intro w' hb
      have h2:=BW hoj hap (fun cs b=>hsel i oi cs b hi) (fun cs b=>hsel j oj cs b hoj) hQ hy (h1 w' hb)
      refine wpOp_mono (fun a' w2 h3=>⟨h3.2.1,ih (listed.setIfInBounds j true) a' w2 hfree' hE' hW' (ready_mono hr (Ne.symm hji)) (cj.later h3.1 (oq hb (h3.2.1 hg))) ?_⟩) h2
      rw [Array.setIfInBounds_comm _ _ hji]
      exact h3.2.2
    | false=>
      rw [if_neg (by simp)]
      rw [he,if_neg (by simp)] at h1
      have h2:=DA hoj hap (fun cs b=>hsel i oi cs b hi) (fun cs b=>hsel j oj cs b hoj) hy h1
      refine qOp_mono (fun a' h3=>ih (listed.setIfInBounds j true) a' w hfree' hE' hW' (ready_mono hr (Ne.symm hji)) h3.1 ?_) h2
      rw [Array.setIfInBounds_comm _ _ hji]
      exact h3.2
def JL (md:Region.Mode) (ops:Array Oper) (eff grow W:Nat→Bool) (listed:Array Bool) (i:Nat):Bool:=
 (List.range ops.size).all fun j=>(!(eff j&&unl listed j)||(W j||grow j)) &&
  (!W j||(match ops[j]? with|some oj=>oj.after.any fun e=>Region.binds md e&&(e.on==i||(W e.on&&unl listed e.on))|none=>false))
theorem yx {W:Nat→Bool} {listed:Array Bool} {i:Nat} (h:JL md ops eff grow W listed i=true) :
  (∀ j oj,ops[j]?=some oj→eff j=true→listed.getD j true=false→W j=true∨grow j=true)∧
  (∀ j oj,ops[j]?=some oj→W j=true→∃ e∈oj.after,Region.binds md e=true∧(e.on=i∨(W e.on=true∧listed.getD e.on true=false))):=by
 have hj:∀ j oj,ops[j]?=some oj→j∈List.range ops.size:=fun j oj ho=>List.mem_range.2 (Array.getElem?_eq_some_iff.1 ho).1
 refine ⟨fun j oj ho he hu=>?_,fun j oj ho hw=>?_⟩
 ·have:=List.all_eq_true.1 h j (hj j oj ho)
  simp only [Bool.and_eq_true,Bool.or_eq_true,Bool.not_eq_true',he,unl,hu] at this
  simpa using this.1
 ·have:=List.all_eq_true.1 h j (hj j oj ho)
  simp only [Bool.and_eq_true,Bool.or_eq_true,Bool.not_eq_true',ho,hw] at this
  have:=this.2
  simp only [Bool.true_eq_false,false_or,Array.any_eq_true',Bool.and_eq_true,Bool.or_eq_true,beq_iff_eq] at this
  obtain ⟨e,he,hb,h⟩:=this
  refine ⟨e,he,hb,?_⟩
  rcases h with h|⟨h,h'⟩
  ·exact .inl h
  ·exact .inr ⟨h,by simpa [unl] using h'⟩
def jy:Op→Bool
 |.call { callee:=.value _,.. }=>false
 |.convert _ _ _=>false
 |o=>!lT o
def yu (T:TypeId→TI):Op→Bool
 |.alloc t=>!((T t).kind matches .other)
 |_=>false
def fX (ops:Array Oper) (k:Nat):Bool:=match ops[k]? with|some o=>jy o.op|none=>true
def ml (T:TypeId→TI) (ops:Array Oper) (k:Nat):Bool:=match ops[k]? with|some o=>yu T o.op|none=>false
def kF (T:TypeId→TI) (md:Region.Mode) (ops:Array Oper):List Nat→Array Bool→Bool
 |[],listed=>(Region.ready md ops listed).isEmpty
 | k :: ks,listed=>(bif fX ops k then decide (Region.ready md ops listed=[k])
     else (Region.ready md ops listed).contains k&&Region.free md ops listed k&&JL md ops (fX ops) (ml T ops) (fun j=>(mL md ops listed k).getD j false) listed k) &&
   kF T md ops ks (listed.setIfInBounds k true)
def pO (ops:Array Oper):List Nat:=(List.range ops.size).filter (fun k=>!fX ops k)++(List.range ops.size).filter (fX ops)
def AB (T:TypeId→TI) (ops:Array Oper):Bool:=Region.noSelect ops&&kF T .any ops (pO ops) (Array.replicate ops.size false)
def jv (l:List Oper):List Oper:=l.filter (fun o=>!jy o.op)++l.filter (fun o=>jy o.op)
end
section
variable {P:Program} {T:TypeId→TI} {E:Ent} {s:ASt} {ρ:List (Option (Nat×Nat))} {a:Act} {w:World}
def kp (P:Program) (T:TypeId→TI) (ops:Array Oper) (K:ASt→Prop):List Oper→ASt→Prop
 |[],s=>K s
 |o::r,s=>bif jy o.op then kI P T ops s o (kp P T ops K r) else eZ P T ops s o (kp P T ops K r)
theorem B8 (P:Program) (T:TypeId→TI) (ops:Array Oper) (K:ASt→Prop) (s:ASt):kp P T ops K [] s=K s:=rfl
theorem zT (P:Program) (T:TypeId→TI) (ops:Array Oper) (K:ASt→Prop) (o:Oper) (r:List Oper) (s:ASt):kp P T ops K (o::r) s=bif jy o.op then kI P T ops s o (kp P T ops K r) else eZ P T ops s o (kp P T ops K r):=rfl
theorem F9 (w:World) (o:Obj):Bel w (pushB w o):=
 pj w o
theorem BM (hT:an P T) {ops:Array Oper} {i:Nat} {o:Oper} (hi:ops[i]?=some o) (hg:yu T o.op=true) {Q:Exit→Act→World→Prop} {K:Act→World→Prop} (h:wpOp P ops Q i K a w) :
  wpOp P ops Q i (fun a' w2=>Bel w w2∧K a' w2) a w:=by
 unfold wpOp at *
 simp only [hi] at *
 split
 ·rename_i hw
  simp only [hw,if_true] at h
  rcases h with h|h
  case inr=>exact .inr h
  refine .inl ?_
  obtain ⟨dst,op,ty,pos,after,guard⟩:=o
  simp only at hg
  cases op<;>simp only [yu] at hg<;>try cases hg
  rename_i t
  have hko:(T t).kind≠.other:=by intro e;rw [e] at hg;simp at hg
  obtain ⟨z,hz1,hz2,_⟩:=dS (P:=P) hT hko
  have hrun:(Instr.alloc t true (.tuple #[])).run P w=.ok (.pointer (some ⟨w.heap.size,0,none⟩)) (pushB w (.cells z.cells t)):=by simp [Instr.alloc,hz1,newVar,newRow,pushB]
  unfold Oper.wp at *
  simp only [execOp,Sem.run_bind,hrun,Result.andThen_ok,Sem.run_pure,Oper.upon] at h ⊢
  exact ⟨F9 _ _,h⟩
 ·rename_i hw
  simp only [hw] at h
  exact ⟨vA _,h⟩
theorem kr (hT:an P T) {ops:Array Oper} {Q:Exit→Act→World→Prop} {K:ASt→Prop} (hs:Region.noSelect ops=true) (hQ:∀ c a w,¬ Q (.panic c) a w) (hK:∀ s' ρ' a' w',K s'→Rep E s' ρ' a' w'→Q .normal a' w') :
  ∀ (l:List Oper) (ks:List Nat) (listed:Array Bool) (s:ASt) (ρ:List (Option (Nat×Nat))) (a:Act) (w:World),ks.map (fun k=>ops[k]?)=l.map some→kF T .any ops ks listed=true→
    kp P T ops K l s→Rep E s ρ a w→kK P .any ops Q (fX ops) (ml T ops) l.length listed a w
 | [],ks,listed,s,ρ,a,w,hl,hB,h,hr=>by
   have:ks=[]:=by simpa using hl
   subst this
   exact ⟨by simpa [kF] using hB,fun w' hb=>hK _ _ _ _ h (hr.below hb)⟩
 |o::l,[],listed,s,ρ,a,w,hl,hB,h,hr=>by simp at hl
 | o :: l,k::ks,listed,s,ρ,a,w,hl,hB,h,hr=>by
   simp only [List.map_cons,List.cons.injEq] at hl
   obtain ⟨h0,hl'⟩:=hl
   simp only [List.length_cons,kF,Bool.and_eq_true] at hB
   obtain ⟨hB1,hB2⟩:=hB
   have he:fX ops k=jy o.op:=by simp [fX,h0]
   simp only [kp] at h
   cases hf:jy o.op with
   | true=>
     rw [he,hf] at hB1
     simp only [hf,cond_true] at h
     simp only [cond_true,decide_eq_true_eq] at hB1
     refine ⟨fun h1=>(by rw [hB1] at h1;cases h1),fun i hi=>?_⟩
     rw [hB1] at hi
     have hik:i=k:=by simpa using hi
     subst hik
     rw [if_pos (by rw [he,hf])]
     intro w' hb
     have base:wpOp P ops Q i (fun a' w2=>kK P .any ops Q (fX ops) (ml T ops) l.length (listed.setIfInBounds i true) a' w2) a w':=by
      unfold wpOp
      simp only [h0]
      exact io hT (hr.below hb) o h fun s' ρ' a' w2 hs' hr'=>kr hT hs hQ hK l ks _ s' ρ' a' w2 hl' hB2 hs' hr'
     by_cases hg:ml T ops i=true
     ·exact wpOp_mono (fun a' w2 h3=>⟨fun _=>h3.1,h3.2⟩) (BM hT h0 (by simpa [ml,h0] using hg) base)
     ·exact wpOp_mono (fun a' w2 h3=>⟨fun hg'=>absurd hg' hg,h3⟩) base
   | false=>
     rw [he,hf] at hB1
     simp only [hf,cond_false] at h
     simp only [cond_false,Bool.and_eq_true] at hB1
     obtain ⟨⟨hB3,hB4⟩,hB5⟩:=hB1
     have hq:=lD hT hr (ops:=ops) o (KK:=fun a'=>kK P .any ops Q (fX ops) (ml T ops) l.length (listed.setIfInBounds k true) a' w) h
      fun s' a' hs' hr'=>kr hT hs hQ hK l ks _ s' ρ a' w hl' hB2 hs' hr'
     obtain ⟨hW1,hW2⟩:=yx hB5
     by_cases hw:Region.wanted o (yielded ops a.tmps)=true
     ·rw [if_pos hw] at hq
      obtain ⟨v,h1,h2⟩:=hq
      exact nI h0 (Region.noSelect_spec hs) (by rw [he,hf]) hQ l.length listed a w (Region.free_spec h0 hB4) hW1 hW2 (by simpa using hB3) (.inl ⟨hw,h1⟩) h2
     ·rw [if_neg hw] at hq
      exact nI h0 (Region.noSelect_spec hs) (by rw [he,hf]) hQ l.length listed a w (Region.free_spec h0 hB4) hW1 hW2 (by simpa using hB3) (.inr ⟨by simpa using hw,rfl⟩) hq
theorem AWP.drawG {Q:Exit→ASt→Prop} {id:Nat} {l:List Oper} (hm:P.follows .mixedOrders=true) (hT:an P T) (hB:AB T l.toArray=true)
  (h:∀ K:ASt→Prop,(∀ s',Q .normal s'→K s')→kp P T l.toArray K (jv l) s):AWP P (.region id l.toArray true) s Q:=fun E ρ a w hr=>by
 simp only [AB,Bool.and_eq_true] at hB
 have e:∀ p:Oper→Bool,((List.range l.toArray.size).filter (fun k=>match l.toArray[k]? with|some x=>p x|none=>false)).map (fun k=>l.toArray[k]?)=(l.filter p).map some:=fun p=>by
  have:=mr p l l 0 fun j=>by simp
  rw [List.range_eq_range',List.size_toArray]
  exact this
 have e1:∀ k,k∈List.range l.toArray.size→(!fX l.toArray k)=(match l.toArray[k]? with|some x=>!jy x.op|none=>false):=fun k hk=>by
  have hk':k<l.length:=by simpa using hk
  simp [fX,hk']
 have e2:∀ k,k∈List.range l.toArray.size→fX l.toArray k=(match l.toArray[k]? with|some x=>jy x.op|none=>false):=fun k hk=>by
  have hk':k<l.length:=by simpa using hk
  simp [fX,hk']
 have hks:(pO l.toArray).map (fun k=>l.toArray[k]?)=(jv l).map some:=by
  rw [pO,jv,List.map_append,List.map_append,List.filter_congr e1,List.filter_congr e2,e,e]
 have hl:(jv l).length=l.length:=by
  rw [jv,List.length_append,←List.countP_eq_length_filter,←List.countP_eq_length_filter,Nat.add_comm]
  have:=List.length_eq_countP_add_countP (fun o:Oper=>jy o.op) (l:=l)
  simpa using this.symm
 refine wpm (wp_region_any (Q:=fun e a' w'=>(∀ c,e≠.panic c)∧∃ s' ρ',Rep E s' ρ' a' w'∧Q e s') hm (gF (eff:=fX l.toArray) _ _ a w _ (kO (grow:=ml T l.toArray) _ _ _ _ ?_) ⟨rfl,rfl,rfl,Nat.le_refl _,fun _ _=>rfl⟩)) fun _ _ _ h=>h.2
 have:=kr (E:=E) hT (Q:=fun e a' w'=>(∀ c,e≠.panic c)∧∃ s' ρ',Rep E s' ρ' a' w'∧Q e s') hB.1 (fun c a w h=>h.1 c rfl) (fun s' ρ' a' w' hs hr'=>⟨by simp,s',ρ',hr',hs⟩) (jv l) (pO l.toArray) (Array.replicate l.toArray.size false) s ρ a w hks hB.2
  (h _ fun _ hq=>hq) hr
 simpa [hl] using this
end
section
variable {P:Program} {T:TypeId→TI} {E:Ent} {s:ASt} {ρ ρ':List (Option (Nat×Nat))} {a:Act} {w w':World} {hp:List ABlk}
/-! ### A function's end -/
def qE (T:TypeId→TI) (s:ASt):ResultVar→PR
 |.tmp t=>⟨cE (bS s.env t),ai (bS s.env t)⟩
 |.cell t ty=>g1 (bS s.env t) (tK (T ty) s.hp)
def aR (T:TypeId→TI) (s:ASt):List ResultVar→Prop×List AV
 |[]=>(True,[])
 |r::l=>((qE T s r).ok∧(aR T s l).1,(qE T s r).v::(aR T s l).2)
def cQ:List AV→AV
 |[x]=>x
 |l=>.tup l
def ag (np:Nat) (hp:List ABlk) (v:AV) (R:AV→List ABlk→Prop):Prop:=
 ∀ (E:Ent) (ρ:List (Option (Nat×Nat))) (w:World) (u:Value),E.ρ0.length=np→RepH E ρ hp w→(∀ (k:Nat) (p:Option (Nat×Nat)),E.ρ0[k]?=some p→ρ[k]?=some p)→RepV ρ (okB E ρ hp w) w v u→
   ∃ v' hp' ρ',R v' hp'∧RepH E ρ' hp' w∧(∀ (k:Nat) (p:Option (Nat×Nat)),E.ρ0[k]?=some p→ρ'[k]?=some p)∧RepV ρ' (okB E ρ' hp' w) w v' u
def me (T:TypeId→TI) (rs:List ResultVar) (R:AV→List ABlk→Prop):Exit→ASt→Prop
 |.ret,s=>(aR T s rs).1∧ag s.np s.hp (cQ (aR T s rs).2) R
 |.normal,s=>(aR T s rs).1∧ag s.np s.hp (cQ (aR T s rs).2) R
 |_,_=>False
def lS (tmps:Array Value) (r:ResultVar):Sem Value:=
 match r with
 |.tmp t=>pure (tmps.getD t undef)
 |.cell a t=>do loadVar t (←asAddr (tmps.getD a undef))
theorem rF (fn:Func) (tmps:Array Value):results fn tmps=(fn.results.mapM (lS tmps) >>= fun vs=>pure (if h:vs.size=1 then vs[0] else .tuple vs)):=by
 unfold results
 congr 1
theorem xc (hT:an P T) (h:Rep E s ρ a w) (r:ResultVar) (hk:(qE T s r).ok) :
  ∃ u,RepV ρ (okB E ρ s.hp w) w (qE T s r).v u∧(lS a.tmps r).run P w=.ok u w:=by
 cases r with
 |tmp t=>exact ⟨_,ah (h.env t) hk,by simp only [lS,Sem.run_pure]⟩
 | cell x ty=>
   obtain ⟨hg,hk⟩:=hk
   obtain ⟨u,h1,h2⟩:=tE (P:=P) hT h.lt h.heap.blks ty _ _ (ah (h.env x) hg) hk
   have h3:=h2 w (gR w)
   refine ⟨u,h1,?_⟩
   generalize hq:a.tmps.getD x undef=q at *
   have:∃ ad,q=.pointer (some ad):=by
    clear hq
    cases q with
    | pointer p=>
      cases p with
      |some ad=>exact ⟨ad,rfl⟩
      |none=>simp [Instr.loadAt,Instr.sureAddr] at h3
    |_=>simp [Instr.loadAt,Instr.sureAddr] at h3
   obtain ⟨ad,rfl⟩:=this
   simp [Instr.loadAt,Instr.sureAddr] at h3
   simp only [lS,hq,asAddr,Sem.run_bind,Sem.run_pure,Result.andThen_ok]
   exact h3
theorem oV (hT:an P T) (h:Rep E s ρ a w):∀ (rs:List ResultVar),(aR T s rs).1→∃ us:List Value,us.length=rs.length∧fJ ρ (okB E ρ s.hp w) w (aR T s rs).2 us∧
  (rs.mapM (lS a.tmps)).run P w=.ok us w
 |[],_=>⟨[],rfl,⟨rfl,by simp⟩,by simp⟩
 | r :: l,hk=>by
   obtain ⟨u,h1,h2⟩:=xc hT h r hk.1
   obtain ⟨us,h3,h4,h5⟩:=oV hT h l hk.2
   refine ⟨u::us,by simp [h3],⟨by simp [aR,h4.1],fun j x v hx hv=>?_⟩,?_⟩
   ·match j with
    |0=>simp [aR] at hx hv;subst hx;subst hv;exact h1
    |j+1=>exact h4.2 j x v (by simpa [aR] using hx) (by simpa using hv)
   ·rw [List.mapM_cons,Sem.run_bind,h2,Result.andThen_ok,Sem.run_bind,h5,Result.andThen_ok]
    rfl
theorem sr (hT:an P T) (h:Rep E s ρ a w) (fn:Func) (hk:(aR T s fn.results.toList).1) :
  ∃ u,RepV ρ (okB E ρ s.hp w) w (cQ (aR T s fn.results.toList).2) u∧(results fn a.tmps).run P w=.ok u w:=by
 obtain ⟨us,h1,h2,h3⟩:=oV hT h fn.results.toList hk
 have hm:(fn.results.mapM (lS a.tmps)).run P w=.ok us.toArray w:=by
  rw [Array.mapM_eq_mapM_toList,Sem.run_map,h3,Result.andThen_ok]
 have hrun:(results fn a.tmps).run P w=.ok (if h:us.toArray.size=1 then us.toArray[0] else .tuple us.toArray) w:=by
  rw [rF,Sem.run_bind,hm,Result.andThen_ok]
  rfl
 by_cases hl:us.length=1
 ·match us,hl,h2,hrun with
  | [u],_,h2,hrun=>
    have:∃ x,(aR T s fn.results.toList).2=[x]:=by
     match hx:(aR T s fn.results.toList).2,h2.1 with
     |[x],_=>exact ⟨x,rfl⟩
    obtain ⟨x,hx⟩:=this
    rw [hx] at h2
    refine ⟨u,?_,by simpa using hrun⟩
    rw [hx]
    exact h2.2 0 x u rfl rfl
 ·refine ⟨.tuple us.toArray,?_,?_⟩
  ·have:cQ (aR T s fn.results.toList).2=.tup (aR T s fn.results.toList).2:=by
    have hll:=h2.1
    cases hx:(aR T s fn.results.toList).2 with
    |nil=>rfl
    | cons x r=>
      cases r with
      |nil=>rw [hx] at hll;exact absurd hll hl
      |cons y r=>rfl
   rw [this]
   exact .tup _ _ h2.1 h2.2
  ·rw [hrun]
   have:¬ (us.toArray.size=1):=by simpa using hl
   rw [dif_neg this]
def fU:Nat→List AV→List (Nat×AV)
 |_,[]=>[]
 |k,x::r=>(k,x)::fU (k+1) r
theorem v7:∀ (xs:List AV) (k t:Nat),bS (fU k xs) t=if k≤t∧t<k+xs.length then xs.getD (t-k) .any else .any
 |[],k,t=>by simp [fU,bS]
 | x :: r,k,t=>by
   simp only [fU,bS]
   by_cases h:k=t
   ·subst h;simp
   ·rw [if_neg h,v7 r (k+1) t]
    by_cases h2:k+1≤t∧t<k+1+r.length
    ·rw [if_pos h2,if_pos (by simp;omega),show t-k=(t-(k+1))+1 from by omega]
     simp
    ·rw [if_neg h2,if_neg (by simp;omega)]
theorem cm (hT : an P T) {g : FuncId} {fn : Func} {c : Code} (hf : P.funcs[g]? = some fn) (hb : fn.body = some c) (hn : (fn.name == "runtime.NumGoroutine") = false)
  {hp:List ABlk} {xs:List AV} {R:AV→List ABlk→Prop} (hx:xs.length≤fn.ntmps)
  (h:AWP P c { np:=hp.length,nt:=fn.ntmps,env:=fU 0 xs,hp:=hp } (me T fn.results.toList R)):ab P hp g xs R:=by
 refine ⟨⟨fn,hf,hn,by rw [hb];rfl⟩,fun E w us hw hH hus=>?_⟩
 have hnp:E.ρ0.length=hp.length:=hH.len
 refine calls_of_wp hf hb (wpm (h E E.ρ0 _ w ⟨hnp,rfl,?_,fun t=>?_,hH,fun _ _ hk=>hk⟩) fun e a' w' hh=>?_)
 ·simp [hus.1];omega
 ·rw [v7]
  by_cases ht:0≤t∧t<0+xs.length
  ·rw [if_pos ht]
   have hlt:t<xs.length:=by omega
   have:(us.toArray++Array.replicate (fn.ntmps-us.toArray.size) undef).getD t undef=us.getD t undef:=by
    rw [Array.getD_eq_getD_getElem?,Array.getElem?_append_left (by simp [hus.1,hlt])]
    simp [List.getD_eq_getElem?_getD]
   rw [this,Nat.sub_zero]
   exact hus.2 t _ _ (cJ _ _ _ hlt) (cJ _ _ _ (by rw [hus.1];exact hlt))
  ·rw [if_neg ht];exact .any _
 ·obtain ⟨s',ρ',hr,hq⟩:=hh
  have fin:(aR T s' fn.results.toList).1∧ag s'.np s'.hp (cQ (aR T s' fn.results.toList).2) R→a'.defers=[]∧∃ v,(results fn a'.tmps).run P w'=.ok v w'∧
    ∃ u v_1 hp' ρ',Ending.returned v=.returned u∧R v_1 hp'∧RepH E ρ' hp' w'∧(∀ (k:Nat) (p:Option (Nat×Nat)),E.ρ0[k]?=some p→ρ'[k]?=some p)∧RepV ρ' (okB E ρ' hp' w') w' v_1 u:=by
   intro ⟨h1,h2⟩
   obtain ⟨u,hu,hrun⟩:=sr hT hr fn h1
   obtain ⟨v',hp',ρ2,q1,q2,q3,q4⟩:=h2 E ρ' w' u hr.np hr.heap hr.pre hu
   exact ⟨hr.nodef,u,hrun,u,v',hp',ρ2,rfl,q1,q2,q3,q4⟩
  cases e with
  |ret=>exact fin hq
  |normal=>exact fin hq
  |_=>exact hq.elim
theorem ag.data {hp:List ABlk} {v:AV} {R:AV→List ABlk→Prop} (hf:bE hp v) (hn:bY (aY hp v)) (hR:R (aY hp v) []):ag 0 hp v R:=by
 intro E ρ w u hnp hH hpre hv
 have h0:E.ρ0=[]:=List.eq_nil_of_length_eq_zero hnp
 have hnl:∀ b,¬ eE [] [] b:=fun b ⟨k,x,m,hx,_⟩=>by simp at hx
 have hok:∀ b,okB E ρ hp w b→okB E [] [] w b:=fun b ⟨h1,h2,_⟩=>⟨h1,h2,hnl b⟩
 have key:∀ (k b m sz:Nat) (rs:List (List DV)),hp[k]?=some (.rows sz rs)→ρ[k]?=some (some (b,m))→okB E [] [] w b:=by
  intro k b m sz rs hk hb
  obtain ⟨q1,us,ty,fz,q2,_⟩:=hH.blk k _ b m hk hb (by simp)
  rcases q1 with q1|q1
  ·obtain ⟨k',m',hk'⟩:=E.hL b q1
   rw [h0] at hk';simp at hk'
  ·exact ⟨.inr q1,aJ q2,hnl b⟩
 refine ⟨aY hp v,[],[],hR,⟨rfl,by simp,by simp,by simp,hH.fr⟩,by simp [h0],?_⟩
 exact HF hH.blks hok key hv hf hn
/-! ### Renaming of blocks -/
mutual
def renV (f:Nat→Nat):AV→AV
 |.ptr k off=>.ptr (f k) off
 |.rp k sz i off=>.rp (f k) sz i off
 |.osl k sz off n=>.osl (f k) sz off n
 |.agg cs=>.agg (renL f cs)
 |.tup cs=>.tup (renL f cs)
 |.clo g a b=>.clo g (renL f a) (renL f b)
 |.gd g v=>.gd g (renV f v)
 |.mp k=>.mp (f k)
 |.d x=>.d x
 |.dp row off=>.dp row off
 |.any=>.any
def renL (f:Nat→Nat):List AV→List AV
 |[]=>[]
 |x::r=>renV f x::renL f r
end
def renB (f:Nat→Nat):ABlk→ABlk
 |.cells cs=>.cells (renL f cs)
 |.rows sz rs=>.rows sz rs
 |.full sz rs=>.full sz rs
 |.bytes l=>.bytes l
 |.map es=>.map es
 |.iter k a b c=>.iter (f k) a b c
 |.dead=>.dead
mutual
def inV (n:Nat):AV→Prop
 |.ptr k _=>k<n
 |.rp k _ _ _=>k<n
 |.osl k _ _ _=>k<n
 |.agg cs=>inL n cs
 |.tup cs=>inL n cs
 |.clo _ a b=>inL n a∧inL n b
 |.gd _ v=>inV n v
 |.mp k=>k<n
 |_=>True
def inL (n:Nat):List AV→Prop
 |[]=>True
 |x::r=>inV n x∧inL n r
end
def inB (n:Nat):ABlk→Prop
 |.cells cs=>inL n cs
 |.iter k _ _ _=>k<n
 |_=>True
theorem dE {f:Nat→Nat}:∀ {cs:List AV} {j:Nat},(renL f cs)[j]?=(cs[j]?).map (renV f)
 |[],j=>by simp [renL]
 |x::r,0=>by simp [renL]
 |x::r,j+1=>by simp only [renL,List.getElem?_cons_succ];exact dE
theorem cc {f:Nat→Nat}:∀ {cs:List AV},(renL f cs).length=cs.length
 |[]=>rfl
 |x::r=>by simp [renL,cc (cs:=r)]
theorem jA {n:Nat}:∀ {cs:List AV} {j:Nat} {x:AV},inL n cs→cs[j]?=some x→inV n x
 |y::r,0,x,h,hx=>by simp at hx;subst hx;exact h.1
 |y::r,j+1,x,h,hx=>jA h.2 (by simpa using hx)
theorem HD {ok ok':Nat→Prop} {f:Nat→Nat} (hρ:∀ (k:Nat) (p:Option (Nat×Nat)),ρ[k]?=some p→ρ'[f k]?=some p) (hok:∀ b,ok b→ok' b∧w'.heap[b]?=w.heap[b]?)
  {v:AV} {u:Value} (h:RepV ρ ok w v u):RepV ρ' ok' w' (renV f v) u:=by
 induction h with
 |d x v h=>simp only [renV];exact .d _ _ (h.mono hok)
 | agg cs us hl h1 hr ih=>
   simp only [renV]
   refine .agg _ _ (by rw [cc];exact hl) h1 fun j c u hc hu=>?_
   rw [dE] at hc
   obtain ⟨x,hx,rfl⟩:=Option.map_eq_some_iff.1 hc
   exact ih j x u hx hu
 | tup cs us hl hr ih=>
   simp only [renV]
   refine .tup _ _ (by rw [cc];exact hl) fun j c u hc hu=>?_
   rw [dE] at hc
   obtain ⟨x,hx,rfl⟩:=Option.map_eq_some_iff.1 hc
   exact ih j x u hx hu
 |ptr k off b m h=>simp only [renV];exact .ptr _ _ b m (hρ _ _ h)
 |rp k sz i off b m h=>simp only [renV];exact .rp _ _ _ _ b m (hρ _ _ h)
 |osl k sz off n b m cap h hm hn=>simp only [renV];exact .osl _ _ _ _ b m cap (hρ _ _ h) hm hn
 |oslnil k sz A h=>simp only [renV];exact .oslnil _ _ A (hρ _ _ h)
 | dp row off b o u hb hc hr=>
   simp only [renV]
   exact .dp row off b o u (hok b hb).1 (fun j c hj=>(bs (hok b hb).2).trans (hc j c hj)) fun j c hj=>(hr j c hj).mono hok
 | clo g first caps us vs hl hl' hr hr' ih ih'=>
   simp only [renV]
   refine .clo _ _ _ us vs (by rw [cc];exact hl) (by rw [cc];exact hl') (fun j c u hc hu=>?_) fun j c u hc hu=>?_
   ·rw [dE] at hc
    obtain ⟨x,hx,rfl⟩:=Option.map_eq_some_iff.1 hc
    exact ih j x u hx hu
   ·rw [dE] at hc
    obtain ⟨x,hx,rfl⟩:=Option.map_eq_some_iff.1 hc
    exact ih' j x u hx hu
 |mp k b m h=>simp only [renV];exact .mp _ b m (hρ _ _ h)
 |gd g v u ht hf ih=>simp only [renV];exact .gd _ _ _ ih hf
 |any u=>simp only [renV];exact .any u
theorem qW {ok ok':Nat→Prop} {f:Nat→Nat} {n:Nat} (hρ:∀ (k:Nat) (p:Option (Nat×Nat)),k<n→ρ[f k]?=some p→ρ'[k]?=some p) (hok:∀ b,ok b→ok' b∧w'.heap[b]?=w.heap[b]?)
  {x:AV} {u:Value} (h:RepV ρ ok w x u):∀ (v:AV),x=renV f v→inV n v→RepV ρ' ok' w' v u:=by
 induction h with
 |d x u h=>intro v e hi;cases v<;>simp [renV] at e;subst e;exact .d _ _ (h.mono hok)
 | agg cs us hl h1 hr ih=>
   intro v e hi
   cases v<;>simp [renV] at e
   subst e
   simp only [inV] at hi
   refine .agg _ _ (by rw [cc] at hl;exact hl) h1 fun j c u hc hu=>?_
   exact ih j (renV f c) u (by rw [dE,hc];rfl) hu c rfl (jA hi hc)
 | tup cs us hl hr ih=>
   intro v e hi
   cases v<;>simp [renV] at e
   subst e
   simp only [inV] at hi
   refine .tup _ _ (by rw [cc] at hl;exact hl) fun j c u hc hu=>?_
   exact ih j (renV f c) u (by rw [dE,hc];rfl) hu c rfl (jA hi hc)
 |ptr k off b m h=>intro v e hi;cases v<;>simp [renV] at e;obtain ⟨rfl,rfl⟩:=e;exact .ptr _ _ b m (hρ _ _ hi h)
 |rp k sz i off b m h=>intro v e hi;cases v<;>simp [renV] at e;obtain ⟨rfl,rfl,rfl,rfl⟩:=e;exact .rp _ _ _ _ b m (hρ _ _ hi h)
 |osl k sz off n b m cap h hm hn=>intro v e hi;cases v<;>simp [renV] at e;obtain ⟨rfl,rfl,rfl,rfl⟩:=e;exact .osl _ _ _ _ b m cap (hρ _ _ hi h) hm hn
 |oslnil k sz A h=>intro v e hi;cases v<;>simp [renV] at e;obtain ⟨rfl,rfl,rfl,rfl⟩:=e;exact .oslnil _ _ A (hρ _ _ hi h)
 | dp row off b o u hb hc hr=>
   intro v e hi
   cases v<;>simp [renV] at e
   obtain ⟨rfl,rfl⟩:=e
   exact .dp row off b o u (hok b hb).1 (fun j c hj=>(bs (hok b hb).2).trans (hc j c hj)) fun j c hj=>(hr j c hj).mono hok
 | clo g first caps us vs hl hl' hr hr' ih ih'=>
   intro v e hi
   cases v<;>simp [renV] at e
   obtain ⟨rfl,rfl,rfl⟩:=e
   simp only [inV] at hi
   rw [cc] at hl hl'
   refine .clo _ _ _ us vs hl hl' (fun j c u hc hu=>?_) fun j c u hc hu=>?_
   ·exact ih j (renV f c) u (by rw [dE,hc];rfl) hu c rfl (jA hi.1 hc)
   ·exact ih' j (renV f c) u (by rw [dE,hc];rfl) hu c rfl (jA hi.2 hc)
 |mp k b m h=>intro v e hi;cases v<;>simp [renV] at e;subst e;exact .mp _ b m (hρ _ _ hi h)
 | gd g v u ht hf ih=>
   intro v' e hi
   cases v'<;>simp [renV] at e
   obtain ⟨rfl,rfl⟩:=e
   exact .gd _ _ _ (fun hg=>ih hg _ rfl hi) hf
 |any u=>intro v e hi;cases v<;>simp [renV] at e;exact .any u
/-! ### What may be forgotten of a state, and its blocks named anew -/
def mAt (m:List Nat) (big k:Nat):Nat:=(m[k]?).getD big
def nx (f:Nat→Nat) (n:Nat) (env:List (Nat×AV)):List (Nat×AV)→Prop
 |[]=>True
 |(t,v)::r=>(bS env t=renV f v∧inV n v)∧nx f n env r
def ky (f:Nat→Nat) (n:Nat) (hp:List ABlk):Nat→List ABlk→Prop
 |_,[]=>True
 |i,x::r=>(x=.dead∨(hp[f i]?=some (renB f x)∧inB n x))∧ky f n hp (i+1) r
theorem tJ {f:Nat→Nat} {n:Nat} {env:List (Nat×AV)}:∀ {env':List (Nat×AV)},nx f n env env'→∀ t,bS env' t=.any∨(bS env t=renV f (bS env' t)∧inV n (bS env' t))
 |[],_,t=>.inl rfl
 | (k,v)::r,h,t=>by
   simp only [bS]
   split
   ·rename_i e;subst e;exact .inr h.1
   ·exact tJ h.2 t
theorem qT {f:Nat→Nat} {n:Nat} {hp:List ABlk}:∀ {hp':List ABlk} {i:Nat},ky f n hp i hp'→∀ (j:Nat) (x:ABlk),hp'[j]?=some x→x=.dead∨(hp[f (i+j)]?=some (renB f x)∧inB n x)
 |[],i,_,j,x,hx=>by simp at hx
 |y::r,i,h,0,x,hx=>by simp at hx;subst hx;exact h.1
 | y::r,i,h,j+1,x,hx=>by
   have:=qT (i:=i+1) h.2 j x (by simpa using hx)
   rwa [show i+1+j=i+(j+1) from by omega] at this
theorem sP {f:Nat→Nat} {x:ABlk} {us:Array Value} {fz:Nat×Nat}:plain (renB f x) us fz↔plain x us fz:=by
 cases x<;>simp [plain,renB]
theorem xI {f:Nat→Nat} {x:ABlk}:(renB f x).isObj=x.isObj:=by cases x<;>rfl
theorem cF {f:Nat→Nat} {x:ABlk} (h:x≠.dead):renB f x≠.dead:=by cases x<;>simp_all [renB]
theorem Eo {ok ok':Nat→Prop} {f:Nat→Nat} {n:Nat} (hρ:∀ (k:Nat) (p:Option (Nat×Nat)),k<n→ρ[f k]?=some p→ρ'[k]?=some p) (hok:∀ b,ok b→ok' b∧w'.heap[b]?=w.heap[b]?)
  {us:Array Value} {x:ABlk} (h:dy ρ ok w us (renB f x)) (hi:inB n x):dy ρ' ok' w' us x:=by
 refine ⟨h.1,?_⟩
 cases x with
 | cells cs=>
   obtain ⟨_,h1,h2⟩:=h
   rw [cc] at h1
   exact ⟨h1,fun j c u hc hu=>qW hρ hok (h2 j (renV f c) u (by rw [dE,hc];rfl) hu) c rfl (jA hi hc)⟩
 | rows sz rs=>
   obtain ⟨_,h1,h2,h3⟩:=h
   exact ⟨h1,h2,fun i r hi j c u hc hu=>(h3 i r hi j c u hc hu).mono hok⟩
 | full sz rs=>
   obtain ⟨_,h1,h2,h3⟩:=h
   exact ⟨h1,h2,fun i r hi j c u hc hu=>(h3 i r hi j c u hc hu).mono hok⟩
 | bytes l=>
   obtain ⟨_,h1,h2,h3⟩:=h
   exact ⟨h1,h2,fun i r hi j c u hc hu=>(h3 i r hi j c u hc hu).mono hok⟩
 |map es=>trivial
 |iter k a b c=>trivial
 |dead=>trivial
theorem Kw {ok ok':Nat→Prop} {f:Nat→Nat} (hρ:∀ (k:Nat) (p:Option (Nat×Nat)),ρ[k]?=some p→ρ'[f k]?=some p) (hok:∀ b,ok b→ok' b∧w'.heap[b]?=w.heap[b]?)
  {us:Array Value} {x:ABlk} (h:dy ρ ok w us x):dy ρ' ok' w' us (renB f x):=by
 refine ⟨h.1,?_⟩
 cases x with
 | cells cs=>
   obtain ⟨_,h1,h2⟩:=h
   refine ⟨by rw [cc];exact h1,fun j c u hc hu=>?_⟩
   rw [dE] at hc
   obtain ⟨y,hy,rfl⟩:=Option.map_eq_some_iff.1 hc
   exact HD hρ hok (h2 j y u hy hu)
 | rows sz rs=>
   obtain ⟨_,h1,h2,h3⟩:=h
   exact ⟨h1,h2,fun i r hi j c u hc hu=>(h3 i r hi j c u hc hu).mono hok⟩
 | full sz rs=>
   obtain ⟨_,h1,h2,h3⟩:=h
   exact ⟨h1,h2,fun i r hi j c u hc hu=>(h3 i r hi j c u hc hu).mono hok⟩
 | bytes l=>
   obtain ⟨_,h1,h2,h3⟩:=h
   exact ⟨h1,h2,fun i r hi j c u hc hu=>(h3 i r hi j c u hc hu).mono hok⟩
 |map es=>trivial
 |iter k a b c=>trivial
 |dead=>trivial
theorem xv {ok ok':Nat→Prop} {f:Nat→Nat} {n m:Nat} {o:Obj} (hρ:∀ (k:Nat) (p:Option (Nat×Nat)),k<n→ρ[f k]?=some p→ρ'[k]?=some p) (hok:∀ b,ok b→ok' b∧w'.heap[b]?=w.heap[b]?)
  {x:ABlk} (h:cT ρ ok w m o (renB f x)) (hi:inB n x):cT ρ' ok' w' m o x:=by
 by_cases hm:x.isObj=false
 ·obtain ⟨us,ty,fz,h1,h2,h3,h4⟩:=(cT.cells (by rw [xI];exact hm)).1 h
  exact (cT.cells hm).2 ⟨us,ty,fz,h1,h2,⟨h3.1,sP.1 h3.2⟩,Eo hρ hok h4 hi⟩
 ·cases x with
  |map es=>exact h
  |iter k a b c=>obtain ⟨b',m',h1,h2⟩:=h;exact ⟨b',m',hρ _ _ hi h1,h2⟩
  |_=>simp at hm
theorem K6 {ok ok':Nat→Prop} {f:Nat→Nat} {m:Nat} {o:Obj} (hρ:∀ (k:Nat) (p:Option (Nat×Nat)),ρ[k]?=some p→ρ'[f k]?=some p) (hok:∀ b,ok b→ok' b∧w'.heap[b]?=w.heap[b]?)
  {x:ABlk} (h:cT ρ ok w m o x):cT ρ' ok' w' m o (renB f x):=by
 by_cases hm:x.isObj=false
 ·obtain ⟨us,ty,fz,h1,h2,h3,h4⟩:=(cT.cells hm).1 h
  exact (cT.cells (by rw [xI];exact hm)).2 ⟨us,ty,fz,h1,h2,⟨h3.1,sP.2 h3.2⟩,Kw hρ hok h4⟩
 ·cases x with
  |map es=>exact h
  |iter k a b c=>obtain ⟨b',m',h1,h2⟩:=h;exact ⟨b',m',hρ _ _ h1,h2⟩
  |_=>simp at hm
theorem aM.frame (m:List Nat) {np nt:Nat} {env env':List (Nat×AV)} {hp hp':List ABlk} (hl:hp'.length=m.length) (hm:∀ i,i∈m→i<hp.length) (hinj:m.Nodup) (hpre:∀ k,k<np→m[k]?=some k)
  (he:nx (mAt m hp.length) m.length env env') (hh:ky (mAt m hp.length) m.length hp 0 hp') :
  aM { np:=np,nt:=nt,env:=env,hp:=hp } { np:=np,nt:=nt,env:=env',hp:=hp' }:=by
 intro E ρ a w h
 have hlen:=h.heap.len
 simp only at hlen
 have hmi:∀ (i j x:Nat),m[i]?=some x→m[j]?=some x→i=j:=by
  intro i j x hi hj
  obtain ⟨hi1,hi2⟩:=List.getElem?_eq_some_iff.1 hi
  obtain ⟨hj1,hj2⟩:=List.getElem?_eq_some_iff.1 hj
  have hpw:=List.pairwise_iff_getElem.1 hinj
  rcases Nat.lt_trichotomy i j with hlt|heq|hgt
  ·exact absurd (hi2.trans hj2.symm) (hpw i j hi1 hj1 hlt)
  ·exact heq
  ·exact absurd (hj2.trans hi2.symm) (hpw j i hj1 hi1 hgt)
 have hget:∀ i,i<m.length→∃ x,m[i]?=some x∧mAt m hp.length i=x∧x<ρ.length:=by
  intro i hi
  refine ⟨m[i],List.getElem?_eq_getElem hi,by simp [mAt,List.getElem?_eq_getElem hi],?_⟩
  rw [hlen];exact hm _ (List.getElem_mem hi)
 let ρ':List (Option (Nat×Nat)):=m.map fun i=>(ρ[i]?).getD none
 have hρ':∀ (k:Nat) (p:Option (Nat×Nat)),ρ'[k]?=some p↔∃ x,m[k]?=some x∧ρ[x]?=some p:=by
  intro k p
  simp only [ρ',List.getElem?_map,Option.map_eq_some_iff]
  constructor
  ·rintro ⟨x,hx,e⟩
   have hxl:x<ρ.length:=by rw [hlen];exact hm x (List.mem_of_getElem? hx)
   rw [List.getElem?_eq_getElem hxl] at e
   exact ⟨x,hx,by rw [List.getElem?_eq_getElem hxl];simpa using e⟩
  ·rintro ⟨x,hx,e⟩
   exact ⟨x,hx,by rw [e];rfl⟩
 have hdown:∀ (k:Nat) (p:Option (Nat×Nat)),k<m.length→ρ[mAt m hp.length k]?=some p→ρ'[k]?=some p:=by
  intro k p hk hp'
  obtain ⟨x,hx,e,_⟩:=hget k hk
  rw [e] at hp'
  exact (hρ' k p).2 ⟨x,hx,hp'⟩
 have hblk:∀ (j:Nat) (x:ABlk) (p:Option (Nat×Nat)),hp'[j]?=some x→x≠.dead→ρ'[j]?=some p→∃ i,m[j]?=some i∧mAt m hp.length j=i∧hp[i]?=some (renB (mAt m hp.length) x)∧inB m.length x∧ρ[i]?=some p:=by
  intro j x p hx hd hpj
  rcases qT hh j x hx with e|⟨h1,h2⟩
  ·exact absurd e hd
  ·rw [Nat.zero_add] at h1
   obtain ⟨i,hi,hip⟩:=(hρ' j p).1 hpj
   have:mAt m hp.length j=i:=by simp [mAt,hi]
   rw [this] at h1
   exact ⟨i,hi,this,by rw [this] at *;exact h1,h2,hip⟩
 have hlive:∀ b,eE ρ' hp' b→eE ρ hp b:=by
  intro b ⟨k,x,q,hx,hd,hk⟩
  obtain ⟨i,_,_,h1,_,h2⟩:=hblk k x _ hx hd hk
  exact ⟨i,_,q,h1,cF hd,h2⟩
 have hok:∀ b,okB E ρ hp w b→okB E ρ' hp' w b∧w.heap[b]?=w.heap[b]?:=fun b ⟨h1,h2,h3⟩=>⟨⟨h1,h2,fun hl=>h3 (hlive b hl)⟩,rfl⟩
 refine ⟨ρ',h.np,h.nodef,h.nt,fun t=>?_,⟨by simp [ρ',hl],fun k x b q hx hk hd=>?_,fun k x hx hk=>?_,fun k k' x x' b q q' hx hx' hd hd' hk hk'=>?_,h.heap.fr⟩,fun k p hk=>?_⟩
 ·rcases tJ he t with e|⟨e,hi⟩
  ·simp only [e];exact .any _
  ·have:=h.env t
   simp only [e] at this
   exact qW hdown hok this _ rfl hi
 ·obtain ⟨i,_,_,h1,h2,h3⟩:=hblk k x _ hx hd hk
  obtain ⟨q1,o,q2,q3⟩:=h.heap.obj i _ b q h1 h3 (cF hd)
  exact ⟨q1,o,q2,xv hdown hok q3 h2⟩
 ·by_cases hd:x=.dead
  ·exact .inl hd
  ·obtain ⟨i,_,_,h1,h2,h3⟩:=hblk k x _ hx hd hk
   rcases h.heap.nil i _ h1 h3 with e|⟨sz,e⟩
   ·exact absurd e (cF hd)
   ·right
    cases x with
    |cells cs=>simp [renB] at e
    |rows sz' rs=>simp [renB] at e;exact ⟨sz',by rw [e.2]⟩
    |full sz' rs=>simp [renB] at e
    |bytes l=>simp [renB] at e
    |map es=>simp [renB] at e
    |iter k a b c=>simp [renB] at e
    |dead=>simp [renB] at e
 ·obtain ⟨i,a1,_,h1,_,h3⟩:=hblk k x _ hx hd hk
  obtain ⟨i',a1',_,h1',_,h3'⟩:=hblk k' x' _ hx' hd' hk'
  have:=h.heap.inj i i' _ _ b q q' h1 h1' (cF hd) (cF hd') h3 h3'
  subst this
  exact hmi k k' i a1 a1'
 ·have hkn:k<np:=by
   have:=(List.getElem?_eq_some_iff.1 hk).1
   rw [h.np] at this;exact this
  exact (hρ' k p).2 ⟨k,hpre k hkn,h.pre k p hk⟩
theorem aM.keep {np nt:Nat} {env env':List (Nat×AV)} {hp hp':List ABlk} (hn:np≤hp'.length) (hlt:hp'.length≤hp.length)
  (he:nx (mAt (List.range hp'.length) hp.length) hp'.length env env') (hh:ky (mAt (List.range hp'.length) hp.length) hp'.length hp 0 hp') :
  aM { np:=np,nt:=nt,env:=env,hp:=hp } { np:=np,nt:=nt,env:=env',hp:=hp' }:=
 aM.frame (List.range hp'.length) (by simp) (fun i hi=>by simp at hi;omega) List.nodup_range (fun k hk=>by rw [List.getElem?_range (by omega)]) (by simpa using he) (by simpa using hh)
theorem aM.nilOwn (t sz:Nat) {np nt:Nat} {env:List (Nat×AV)} {hp:List ABlk} (ht:bS env t=.d (.sc (.slice none 0 0))) :
  aM { np:=np,nt:=nt,env:=env,hp:=hp } { np:=np,nt:=nt,env:=(t,.osl hp.length sz 0 0)::env,hp:=hp++[.rows sz []] }:=by
 intro E ρ a w h
 have hst:=HStep.nilRow h.heap sz
 have hr:=h.step hst
 refine ⟨_,hr.np,hr.nodef,hr.nt,fun t'=>?_,hr.heap,hr.pre⟩
 simp only [bS]
 by_cases e:t=t'
 ·subst e
  simp only [if_true]
  have:=h.env t
  simp only [ht] at this
  generalize hu:a.tmps.getD t undef=u at this
  cases this with|d _ _ hd=>
  obtain ⟨A,rfl⟩:=gC hd
  have hl:=h.heap.len
  simp only at hl
  exact .oslnil _ _ A (by rw [←hl];simp)
 ·simp only [e,if_false]
  exact hr.env t'
def H1 (hp:List ABlk) (env:List (Nat×AV)):List (Nat×AV)→Prop
 |[]=>True
 |(t,v)::r=>((bS env t=v)∨(bE hp (bS env t)∧bY (aY hp (bS env t))∧v=aY hp (bS env t)))∧H1 hp env r
def killRows:List ABlk→List ABlk
 |[]=>[]
 |.rows _ _::r=>.dead::killRows r
 |x::r=>x::killRows r
theorem ek:∀ {hp:List ABlk} {k:Nat} {x:ABlk},(killRows hp)[k]?=some x→x≠.dead→hp[k]?=some x
 |[],k,x,h,_=>by simp [killRows] at h
 | y::r,0,x,h,hd=>by
   cases y with
   |rows _ _=>simp [killRows] at h;exact absurd h.symm hd
   |cells _=>simpa [killRows] using h
   |full _ _=>simpa [killRows] using h
   |bytes _=>simpa [killRows] using h
   |map _=>simpa [killRows] using h
   |iter _ _ _ _=>simpa [killRows] using h
   |dead=>simp [killRows] at h;exact absurd h.symm hd
 | y::r,k+1,x,h,hd=>by
   have:(killRows r)[k]?=some x:=by cases y<;>simpa [killRows] using h
   simpa using ek this hd
theorem jL:∀ {hp:List ABlk},(killRows hp).length=hp.length
 |[]=>rfl
 |y::r=>by cases y<;>simp [killRows,jL (hp:=r)]
theorem HStep.killRows (h:RepH E ρ hp w):HStep E ρ hp w ρ (killRows hp) w:=by
 have hlive:∀ b,eE ρ (_root_.Go.Proofs.YtjcooccnfkfjhaaGreatDoor.killRows hp) b→eE ρ hp b:=fun b ⟨j,y,m,hy,hd,hk⟩=>⟨j,y,m,ek hy hd,hd,hk⟩
 have hok:∀ b,okB E ρ hp w b→okB E ρ (_root_.Go.Proofs.YtjcooccnfkfjhaaGreatDoor.killRows hp) w b∧w.heap[b]?=w.heap[b]?:=fun b ⟨h1,h2,h3⟩=>⟨⟨h1,h2,fun hl=>h3 (hlive b hl)⟩,rfl⟩
 refine ⟨⟨by rw [jL];exact h.len,fun j y b m hy hk hd=>?_,fun j y hy hk=>?_,fun j j' y y' b m m' hy hy' hd hd' hk hk'=>?_,h.fr⟩,fun _ _ hk=>hk,hok⟩
 ·obtain ⟨q1,o,q2,q3⟩:=h.obj j y b m (ek hy hd) hk hd
  exact ⟨q1,o,q2,q3.mono (fun _ _ hh=>hh) hok⟩
 ·by_cases hd:y=.dead
  ·exact .inl hd
  ·exact h.nil j y (ek hy hd) hk
 ·exact h.inj j j' y y' b m m' (ek hy hd) (ek hy' hd') hd hd' hk hk'
end
end Go.Proofs.YtjcooccnfkfjhaaGreatDoor
namespace Go.Proofs.YtjcooccnfkfjhaaGreatDoor
set_option linter.unusedVariables false
set_option linter.unusedSimpArgs false
open Go Go.RowKit
def A9:Value→Bool
 |.slice _ _ _=>true
 |_=>false
mutual
def aW:AV→Option Value
 |.d (.int k n)=>some (.int k n)
 |.d (.bool b)=>some (.bool b)
 |.d (.str l)=>some (aG l)
 |.d (.sc v)=>if v.oneCell'=true∧A9 v=false then some v else none
 |.tup vs=>(fj vs).map fun l=>.tuple l.toArray
 |.agg cs=>(fj cs).bind fun l=>if l.all (·.oneCell') then some (.agg l.toArray) else none
 |_=>none
def fj:List AV→Option (List Value)
 |[]=>some []
 | x::r=>match aW x,fj r with
   |some u,some l=>some (u::l)
   |_,_=>none
end
section
variable {P:Program} {T:TypeId→TI} {E:Ent} {s:ASt} {ρ ρ':List (Option (Nat×Nat))} {a:Act} {w w':World} {hp:List ABlk} {ok ok':Nat→Prop}
theorem eO:∀ {cs:List AV} {l:List Value},fj cs=some l→l.length=cs.length∧∀ (j:Nat) (x:AV),cs[j]?=some x→∃ u,l[j]?=some u∧aW x=some u
 |[],l,h=>by simp [fj] at h;subst h;exact ⟨rfl,by simp⟩
 | x :: r,l,h=>by
   simp only [fj] at h
   cases h1:aW x with
   |none=>simp [h1] at h
   | some u=>
     cases h2:fj r with
     |none=>simp [h1,h2] at h
     | some l'=>
       simp [h1,h2] at h
       subst h
       obtain ⟨a1,a2⟩:=eO h2
       refine ⟨by simp [a1],fun j y hy=>?_⟩
       match j with
       |0=>simp at hy;subst hy;exact ⟨u,rfl,h1⟩
       |j+1=>simpa using a2 j y (by simpa using hy)
theorem pH {x:AV} {u:Value} (h:RepV ρ ok w x u):∀ u0,aW x=some u0→u=u0:=by
 induction h with
 | d x v h=>
   intro u0 e
   cases h with
   |int k n=>simp [aW] at e;exact e
   |bool b=>simp [aW] at e;exact e
   |str l=>simp [aW] at e;exact e
   |sc v h1=>simp [aW,h1] at e;exact e.2
   |sc0 A=>simp [aW,A9] at e
   |sl=>simp [aW] at e
 | agg cs us hl h1 hr ih=>
   intro u0 e
   simp only [aW,Option.bind_eq_some_iff] at e
   obtain ⟨l,hl',e⟩:=e
   split at e
   ·injection e with e
    subst e
    obtain ⟨a1,a2⟩:=eO hl'
    congr 2
    apply List.ext_getElem?
    intro j
    by_cases hj:j<cs.length
    ·obtain ⟨u,hu,hs⟩:=a2 j _ (List.getElem?_eq_getElem hj)
     have hju:j<us.length:=by omega
     rw [hu,List.getElem?_eq_getElem hju]
     rw [ih j _ _ (List.getElem?_eq_getElem hj) (List.getElem?_eq_getElem hju) u hs]
    ·rw [List.getElem?_eq_none (by omega),List.getElem?_eq_none (by omega)]
   ·cases e
 | tup cs us hl hr ih=>
   intro u0 e
   simp only [aW,Option.map_eq_some_iff] at e
   obtain ⟨l,hl',e⟩:=e
   subst e
   obtain ⟨a1,a2⟩:=eO hl'
   congr 2
   apply List.ext_getElem?
   intro j
   by_cases hj:j<cs.length
   ·obtain ⟨u,hu,hs⟩:=a2 j _ (List.getElem?_eq_getElem hj)
    have hju:j<us.length:=by omega
    rw [hu,List.getElem?_eq_getElem hju]
    rw [ih j _ _ (List.getElem?_eq_getElem hj) (List.getElem?_eq_getElem hju) u hs]
   ·rw [List.getElem?_eq_none (by omega),List.getElem?_eq_none (by omega)]
 |_=>intro u0 e;simp [aW] at e
mutual
theorem ka:∀ (x:AV) (u:Value),aW x=some u→RepV ρ ok w x u
 |.d (.int k n),u,h=>by simp [aW] at h;subst h;exact .d _ _ (.int _ _)
 |.d (.bool b),u,h=>by simp [aW] at h;subst h;exact .d _ _ (.bool _)
 |.d (.str l),u,h=>by simp [aW] at h;subst h;exact .d _ _ (.str _)
 | .d (.sc v),u,h=>by
   simp only [aW] at h
   split at h
   ·rename_i h1;injection h with h;subst h;exact .d _ _ (.sc _ h1.1)
   ·cases h
 |.d (.sl _ _),u,h=>by simp [aW] at h
 | .tup vs,u,h=>by
   simp only [aW,Option.map_eq_some_iff] at h
   obtain ⟨l,hl,rfl⟩:=h
   obtain ⟨a1,a2⟩:=eO hl
   exact .tup _ _ a1 (oB vs l hl)
 | .agg cs,u,h=>by
   simp only [aW,Option.bind_eq_some_iff] at h
   obtain ⟨l,hl,h⟩:=h
   split at h
   ·rename_i h1
    injection h with h
    subst h
    obtain ⟨a1,a2⟩:=eO hl
    exact .agg _ _ a1 (by simpa using h1) (oB cs l hl)
   ·cases h
 |.ptr _ _,u,h=>by simp [aW] at h
 |.rp _ _ _ _,u,h=>by simp [aW] at h
 |.osl _ _ _ _,u,h=>by simp [aW] at h
 |.dp _ _,u,h=>by simp [aW] at h
 |.clo _ _ _,u,h=>by simp [aW] at h
 |.gd _ _,u,h=>by simp [aW] at h
 |.mp _,u,h=>by simp [aW] at h
 |.any,u,h=>by simp [aW] at h
theorem oB:∀ (cs:List AV) (l:List Value),fj cs=some l→∀ (j:Nat) (x:AV) (u:Value),cs[j]?=some x→l[j]?=some u→RepV ρ ok w x u
 |[],l,h,j,x,u,hx,hu=>by simp at hx
 | y :: r,l,h,j,x,u,hx,hu=>by
   simp only [fj] at h
   cases h1:aW y with
   |none=>simp [h1] at h
   | some v=>
     cases h2:fj r with
     |none=>simp [h1,h2] at h
     | some l'=>
       simp [h1,h2] at h
       subst h
       match j with
       |0=>simp at hx hu;subst hx;subst hu;exact ka y v h1
       |j+1=>exact oB r l' h2 j x u (by simpa using hx) (by simpa using hu)
end
theorem nU {g:FuncId} {xs:List AV} {x:AV} {u0:Value} (c:ab P [] g (cI hp xs) (fun v _=>v=x)) (hsc:aW x=some u0) (hf:bH hp xs) (hn:cA (cI hp xs)) :
  uS P hp g xs x:=by
 refine ⟨c.1,fun E ρ w us hH hus=>⟨u0,ka x u0 hsc,fun w' hb=>?_⟩⟩
 let E':Ent:={ w0:=w',L0:=fun _=>False,S0:=fun b=>b<w.heap.size,ρ0:=[],hS:=fun b h=>⟨Nat.lt_of_lt_of_le h hb.size,fun h=>h⟩,hL:=fun b h=>h.elim,hT:=hH.tabsAt.below hb,hTL:=fun _ _ h=>h }
 have hnl:∀ b,¬ eE [] [] b:=fun b ⟨k,x,m,hx,_⟩=>by simp at hx
 have hE:RepH E' [] [] w':=⟨rfl,by simp,by simp,by simp,Fr.refl _ _⟩
 have hargs:fJ [] (okB E' [] [] w') w' (cI hp xs) us:=by
  refine ⟨by rw [dX];exact hus.1,fun j y u hy hu=>?_⟩
  have hy0:=hy
  rw [dD] at hy
  obtain ⟨z,hz,rfl⟩:=Option.map_eq_some_iff.1 hy
  have h1:=HF (ok':=fun b=>b<w.heap.size) hH.blks (fun b hb=>hb.2.1) (fun k b m sz rs hk hb=>by
   obtain ⟨_,us,ty,fz,q2,_⟩:=hH.blk k _ b m hk hb (by simp)
   exact aJ q2) (hus.2 j z u hz hu) (dr hf hz) (cG hn hy0)
  exact gE (fun b hb'=>⟨⟨.inl hb',Nat.lt_of_lt_of_le hb' hb.size,hnl b⟩,hb.block b hb'⟩) h1 (cG hn hy0)
 refine (c.2 E' w' us rfl hE hargs).mono fun e w'' hh=>?_
 obtain ⟨u,v,hp',ρ',h1,h2,h3,h4,h5⟩:=hh
 subst h2
 refine ⟨by rw [h1,pH h5 u0 hsc],h3.fr.os,h3.fr.tape,h3.fr.output,h3.fr.size,fun k hk=>h3.fr.block k hk (fun h=>h)⟩
theorem wZ {g:FuncId} {xs:List AV} {x:AV} {K:AV→List ABlk→Prop} (h:uS P hp g xs x) (hK:K x hp):om P hp g xs K:=by
 refine ⟨h.1,fun E ρ w us hH hus=>?_⟩
 obtain ⟨u,hu,hrun⟩:=h.2 E ρ w us hH hus
 refine (hrun w (gR w)).mono fun e w' ⟨h1,h2⟩=>?_
 have hs:=HStep.below hH h2
 exact ⟨u,x,hp,ρ,h1,hK,hs,hu.step hs⟩
theorem pb {g:FuncId} {xs:List AV} {x:AV} {u0:Value} {K:AV→List ABlk→Prop} (c:ab P [] g (cI hp xs) (fun v _=>v=x)) (hsc:aW x=some u0) (hf:bH hp xs)
  (hn:cA (cI hp xs)) (hK:K x hp):om P hp g xs K:=wZ (nU c hsc hf hn) hK
def br (m:List Nat) (n k:Nat):Nat:=match m[k]? with|some j=>j|none=>k-m.length+n
def bB (f:Nat→Nat):List ABlk→List Nat→List ABlk→List ABlk
 |hp,i::m,x::r=>bB f (hp.set i (renB f x)) m r
 |hp,_,_=>hp
def dh (f:Nat→Nat) (l:List ABlk):List ABlk:=l.map (renB f)
theorem eD {f:Nat→Nat}:∀ {m:List Nat} {hp:List ABlk} {r:List ABlk},(bB f hp m r).length=hp.length
 |[],hp,r=>by cases r<;>simp [bB]
 |i::m,hp,[]=>by simp [bB]
 |i::m,hp,x::r=>by simp only [bB];rw [eD];simp
theorem qy {f:Nat→Nat}:∀ {m:List Nat} {hp:List ABlk} {r:List ABlk},m.Nodup→m.length≤r.length→(∀ i,i∈m→i<hp.length)→∀ (j:Nat) (y:ABlk),(bB f hp m r)[j]?=some y→
  (j∉m∧hp[j]?=some y)∨∃ (i:Nat) (x:ABlk),m[i]?=some j∧r[i]?=some x∧y=renB f x
 | [],hp,r,_,_,_,j,y,h=>by
   have:bB f hp [] r=hp:=by cases r<;>simp [bB]
   rw [this] at h
   exact .inl ⟨by simp,h⟩
 |i::m,hp,[],_,hl,_,j,y,h=>by simp at hl
 | i :: m,hp,x::r,hnd,hl,hm,j,y,h=>by
   simp only [bB] at h
   have hnd':=List.nodup_cons.1 hnd
   rcases qy hnd'.2 (by simpa using hl) (fun k hk=>by simpa using hm k (List.mem_cons_of_mem _ hk)) j y h with ⟨h1,h2⟩|⟨k,z,h1,h2,h3⟩
   ·rcases ak h2 with ⟨e,e',_⟩|⟨hne,h3⟩
    ·subst e;exact .inr ⟨0,x,by simp,by simp,e'⟩
    ·exact .inl ⟨fun hh=>(List.mem_cons.1 hh).elim (fun e=>hne e) (fun e=>h1 e),h3⟩
   ·exact .inr ⟨k+1,z,by simpa using h1,by simpa using h2,h3⟩
theorem jx {g:FuncId} (m:List Nat) {chp:List ABlk} {cargs:List AV} {R:AV→List ABlk→Prop} {K:AV→List ABlk→Prop} (c:ab P chp g cargs R)
  (hcl:chp.length=m.length) (hnd:m.Nodup) (hm:∀ i,i∈m→i<hp.length) (hargs:inL m.length cargs) (hchp:ky (mAt m hp.length) m.length hp 0 chp)
  (hK:∀ v hp',R v hp'→K (renV (br m hp.length) v) (bB (br m hp.length) hp m hp'++dh (br m hp.length) (hp'.drop m.length))) :
  om P hp g (renL (mAt m hp.length) cargs) K:=by
 refine ⟨c.1,fun E ρ w us hH hus=>?_⟩
 have hlen:=hH.len
 have hmi:∀ (i j x:Nat),m[i]?=some x→m[j]?=some x→i=j:=by
  intro i j x hi hj
  obtain ⟨hi1,hi2⟩:=List.getElem?_eq_some_iff.1 hi
  obtain ⟨hj1,hj2⟩:=List.getElem?_eq_some_iff.1 hj
  have hpw:=List.pairwise_iff_getElem.1 hnd
  rcases Nat.lt_trichotomy i j with hlt|heq|hgt
  ·exact absurd (hi2.trans hj2.symm) (hpw i j hi1 hj1 hlt)
  ·exact heq
  ·exact absurd (hj2.trans hi2.symm) (hpw j i hj1 hi1 hgt)
 let ρc:List (Option (Nat×Nat)):=m.map fun i=>(ρ[i]?).getD none
 have hρc:∀ (k:Nat) (p:Option (Nat×Nat)),ρc[k]?=some p↔∃ x,m[k]?=some x∧ρ[x]?=some p:=by
  intro k p
  simp only [ρc,List.getElem?_map,Option.map_eq_some_iff]
  constructor
  ·rintro ⟨x,hx,e⟩
   have hxl:x<ρ.length:=by rw [hlen];exact hm x (List.mem_of_getElem? hx)
   rw [List.getElem?_eq_getElem hxl] at e
   exact ⟨x,hx,by rw [List.getElem?_eq_getElem hxl];simpa using e⟩
  ·rintro ⟨x,hx,e⟩
   exact ⟨x,hx,by rw [e];rfl⟩
 have hdown:∀ (k:Nat) (p:Option (Nat×Nat)),k<m.length→ρ[mAt m hp.length k]?=some p→ρc[k]?=some p:=by
  intro k p hk hp'
  have:mAt m hp.length k=m[k]:=by simp [mAt,List.getElem?_eq_getElem hk]
  rw [this] at hp'
  exact (hρc k p).2 ⟨m[k],List.getElem?_eq_getElem hk,hp'⟩
 have hblk:∀ (j:Nat) (x:ABlk) (p:Option (Nat×Nat)),chp[j]?=some x→x≠.dead→ρc[j]?=some p→∃ i,m[j]?=some i∧hp[i]?=some (renB (mAt m hp.length) x)∧inB m.length x∧ρ[i]?=some p:=by
  intro j x p hx hd hpj
  rcases qT hchp j x hx with e|⟨h1,h2⟩
  ·exact absurd e hd
  ·rw [Nat.zero_add] at h1
   obtain ⟨i,hi,hip⟩:=(hρc j p).1 hpj
   have:mAt m hp.length j=i:=by simp [mAt,hi]
   rw [this] at h1
   exact ⟨i,hi,h1,h2,hip⟩
 have hlivec:∀ b,eE ρc chp b→eE ρ hp b:=by
  intro b ⟨k,x,q,hx,hd,hk⟩
  obtain ⟨i,_,h1,_,h2⟩:=hblk k x _ hx hd hk
  exact ⟨i,_,q,h1,cF hd,h2⟩
 let E':Ent:={ w0:=w,L0:=fun b=>eE ρc chp b,S0:=fun b=>okB E ρ hp w b,ρ0:=ρc,hS:=fun b h=>⟨h.2.1,fun hl=>h.2.2 (hlivec b hl)⟩,hL:=fun b ⟨k,_,q,_,_,hk⟩=>⟨k,q,hk⟩,hT:=hH.tabsAt,hTL:=fun p hp' hl=>hH.tabLive hp' (hlivec _ hl) }
 have hokc:∀ b,okB E ρ hp w b→okB E' ρc chp w b∧w.heap[b]?=w.heap[b]?:=fun b hb=>⟨⟨.inl hb,hb.2.1,fun hl=>hb.2.2 (hlivec b hl)⟩,rfl⟩
 have hE : RepH E' ρc chp w:=by
  refine ⟨by simp [ρc,hcl],fun k x b q hx hk hd=>?_,fun k x hx hk=>?_,fun k k' x x' b q q' hx hx' hd hd' hk hk'=>?_,Fr.refl _ _⟩
  ·obtain ⟨i,_,h1,h2,h3⟩:=hblk k x _ hx hd hk
   obtain ⟨q1,o,q2,q3⟩:=hH.obj i _ b q h1 h3 (cF hd)
   exact ⟨.inl ⟨k,x,q,hx,hd,hk⟩,o,q2,xv hdown hokc q3 h2⟩
  ·by_cases hd:x=.dead
   ·exact .inl hd
   ·obtain ⟨i,_,h1,h2,h3⟩:=hblk k x _ hx hd hk
    rcases hH.nil i _ h1 h3 with e|⟨sz,e⟩
    ·exact absurd e (cF hd)
    ·right
     cases x with
     |cells cs=>simp [renB] at e
     |rows sz' rs=>simp [renB] at e;exact ⟨sz',by rw [e.2]⟩
     |full sz' rs=>simp [renB] at e
     |bytes l=>simp [renB] at e
     |map es=>simp [renB] at e
     |iter k a b c=>simp [renB] at e
     |dead=>simp [renB] at e
  ·obtain ⟨i,a1,h1,_,h3⟩:=hblk k x _ hx hd hk
   obtain ⟨i',a1',h1',_,h3'⟩:=hblk k' x' _ hx' hd' hk'
   have:=hH.inj i i' _ _ b q q' h1 h1' (cF hd) (cF hd') h3 h3'
   subst this
   exact hmi k k' i a1 a1'
 have hav:fJ ρc (okB E' ρc chp w) w cargs us:=by
  refine ⟨by rw [hus.1,cc],fun j x u hx hu=>?_⟩
  exact qW hdown hokc (hus.2 j (renV (mAt m hp.length) x) u (by rw [dE,hx];rfl) hu) x rfl (jA hargs hx)
 refine (c.2 E' w us rfl hE hav).mono fun e w' hh=>?_
 obtain ⟨u,v,hp',ρ',h1,h2,h3,h4,h5⟩:=hh
 -- the caller's names behind the call
 have hl3:=h3.len
 have hml:m.length≤ρ'.length:=by
  rcases Nat.eq_zero_or_pos m.length with h0|h0
  ·omega
  ·have hlast:m.length-1<ρc.length:=by simp [ρc];omega
   have:=(List.getElem?_eq_some_iff.1 (h4 (m.length-1) _ (List.getElem?_eq_getElem hlast))).1
   omega
 let ρ2:List (Option (Nat×Nat)):=ρ++ρ'.drop m.length
 have hup1:∀ (k:Nat) (p:Option (Nat×Nat)),ρ[k]?=some p→ρ2[k]?=some p:=fun k p hk=>by
  have:=(List.getElem?_eq_some_iff.1 hk).1
  simp only [ρ2];rw [List.getElem?_append_left this];exact hk
 have hren:∀ (k:Nat) (p:Option (Nat×Nat)),ρ'[k]?=some p→ρ2[br m hp.length k]?=some p:=by
  intro k p hk
  by_cases hkm:k<m.length
  ·have hmk:m[k]?=some m[k]:=List.getElem?_eq_getElem hkm
   have:br m hp.length k=m[k]:=by simp [br,hmk]
   rw [this]
   refine hup1 _ _ ?_
   have hml':m[k]<ρ.length:=by rw [hlen];exact hm _ (List.getElem_mem hkm)
   have hρk:ρc[k]?=some ρ[m[k]]:=(hρc k _).2 ⟨m[k],hmk,List.getElem?_eq_getElem hml'⟩
   have:=h4 k _ hρk
   rw [this] at hk
   injection hk with hk
   rw [←hk];exact List.getElem?_eq_getElem hml'
  ·have hmk:m[k]?=none:=List.getElem?_eq_none (by omega)
   have:br m hp.length k=k-m.length+hp.length:=by simp [br,hmk]
   rw [this]
   simp only [ρ2]
   rw [List.getElem?_append_right (by omega),List.getElem?_drop]
   rw [show m.length+(k-m.length+hp.length-ρ.length)=k from by omega]
   exact hk
 -- who is live behind the call
 have back:∀ (j:Nat) (y:ABlk) (p:Option (Nat×Nat)),(bB (br m hp.length) hp m hp'++dh (br m hp.length) (hp'.drop m.length))[j]?=some y→y≠.dead→ρ2[j]?=some p→
   (j∉m∧hp[j]?=some y∧ρ[j]?=some p)∨∃ (i:Nat) (x:ABlk),br m hp.length i=j∧hp'[i]?=some x∧x≠.dead∧y=renB (br m hp.length) x∧ρ'[i]?=some p:=by
  intro j y p hy hd hj
  by_cases hjl:j<hp.length
  ·rw [List.getElem?_append_left (by rw [eD];exact hjl)] at hy
   have hj':ρ[j]?=some p:=by
    have:j<ρ.length:=by omega
    simp only [ρ2] at hj
    rwa [List.getElem?_append_left this] at hj
   rcases qy hnd (by rw [←hl3];exact hml) hm j y hy with ⟨a1,a2⟩|⟨i,x,a1,a2,a3⟩
   ·exact .inl ⟨a1,a2,hj'⟩
   ·refine .inr ⟨i,x,by simp [br,a1],a2,fun e=>by subst e;subst a3;exact hd rfl,a3,?_⟩
    exact h4 i p ((hρc i p).2 ⟨j,a1,hj'⟩)
  ·rw [List.getElem?_append_right (by rw [eD];omega),eD] at hy
   simp only [dh,List.getElem?_map] at hy
   obtain ⟨x,hx,rfl⟩:=Option.map_eq_some_iff.1 hy
   rw [List.getElem?_drop] at hx
   simp only [ρ2] at hj
   rw [List.getElem?_append_right (by omega),List.getElem?_drop] at hj
   refine .inr ⟨m.length+(j-hp.length),x,?_,hx,fun e=>by subst e;exact hd rfl,rfl,by rw [←hlen] at *;exact hj⟩
   have:m[m.length+(j-hp.length)]?=none:=List.getElem?_eq_none (by omega)
   simp only [br,this]
   omega
 have hlive2:∀ b,eE ρ2 (bB (br m hp.length) hp m hp'++dh (br m hp.length) (hp'.drop m.length)) b→eE ρ hp b∨eE ρ' hp' b:=by
  intro b ⟨j,y,q,hy,hd,hj⟩
  rcases back j y _ hy hd hj with ⟨_,a2,a3⟩|⟨i,x,_,a2,a3,_,a5⟩
  ·exact .inl ⟨j,y,q,a2,hd,a3⟩
  ·exact .inr ⟨i,x,q,a2,a3,a5⟩
 -- what the callee's blocks are
 have hcb:∀ b,eE ρ' hp' b→(eE ρc chp b∨w.heap.size≤b):=by
  intro b ⟨i,x,q,hx,hd,hi⟩
  exact (h3.obj i x b q hx hi hd).1
 have hsz0:=hH.fr.size
 have hokE:∀ b,okB E' ρ' hp' w' b→okB E ρ2 (bB (br m hp.length) hp m hp'++dh (br m hp.length) (hp'.drop m.length)) w' b∧w'.heap[b]?=w'.heap[b]?:=by
  intro b ⟨b1,b2,b3⟩
  refine ⟨⟨?_,b2,fun hl=>?_⟩,rfl⟩
  ·rcases b1 with b1|b1
   ·exact b1.1
   ·exact .inr (Nat.le_trans hsz0 b1)
  ·rcases hlive2 b hl with hl|hl
   ·rcases b1 with b1|b1
    ·exact b1.2.2 hl
    ·have:=hH.live_lt hl
     have hb1:w.heap.size≤b:=b1
     omega
   ·exact b3 hl
 have hokC:∀ b,okB E ρ hp w b→okB E ρ2 (bB (br m hp.length) hp m hp'++dh (br m hp.length) (hp'.drop m.length)) w' b∧w'.heap[b]?=w.heap[b]?:=by
  intro b ⟨b1,b2,b3⟩
  refine ⟨⟨b1,Nat.lt_of_lt_of_le b2 h3.fr.size,fun hl=>?_⟩,h3.fr.block b b2 (fun hl=>b3 (hlivec b hl))⟩
  rcases hlive2 b hl with hl|hl
  ·exact b3 hl
  ·rcases hcb b hl with hl|hl
   ·exact b3 (hlivec b hl)
   ·omega
 have hstep:HStep E ρ hp w ρ2 (bB (br m hp.length) hp m hp'++dh (br m hp.length) (hp'.drop m.length)) w':=by
  refine ⟨⟨?_,fun j y b q hy hj hd=>?_,fun j y hy hj=>?_,fun j j' y y' b q q' hy hy' hd hd' hj hj'=>?_,?_⟩,hup1,hokC⟩
  ·simp [ρ2,eD,dh,hlen,hl3]
  ·rcases back j y _ hy hd hj with ⟨a1,a2,a3⟩|⟨i,x,a1,a2,a3,a4,a5⟩
   ·obtain ⟨q1,o,q2,q3⟩:=hH.obj j y b q a2 a3 hd
    have hbl:w'.heap[b]?=w.heap[b]?:=h3.fr.block b (aJ q2) (fun hl=>by
     obtain ⟨k,x,q',hx,hxd,hk⟩:=hl
     obtain ⟨i,hi,c1,_,c2⟩:=hblk k x _ hx hxd hk
     have:=hH.inj j i y _ b q q' a2 c1 hd (cF hxd) a3 c2
     subst this
     exact a1 (List.mem_of_getElem? hi))
    exact ⟨q1,o,hbl.trans q2,q3.mono hup1 hokC⟩
   ·subst a4
    obtain ⟨q1,o,q2,q3⟩:=h3.obj i x b q a2 a5 a3
    refine ⟨?_,o,q2,K6 hren hokE q3⟩
    rcases q1 with ⟨k,z,q',hz,hzd,hk⟩|q1
    ·obtain ⟨i',_,c1,_,c2⟩:=hblk k z _ hz hzd hk
     exact (hH.obj i' _ b q' c1 c2 (cF hzd)).1
    ·exact .inr (Nat.le_trans hsz0 q1)
  ·by_cases hd:y=.dead
   ·exact .inl hd
   ·rcases back j y _ hy hd hj with ⟨a1,a2,a3⟩|⟨i,x,a1,a2,a3,a4,a5⟩
    ·exact hH.nil j y a2 a3
    ·subst a4
     rcases h3.nil i x a2 a5 with e|⟨sz,e⟩
     ·exact absurd e a3
     ·subst e;exact .inr ⟨sz,rfl⟩
  ·have cross:∀ (j i:Nat) (y x:ABlk) (q q':Nat),j∉m→hp[j]?=some y→y≠.dead→ρ[j]?=some (some (b,q))→hp'[i]?=some x→x≠.dead→ρ'[i]?=some (some (b,q'))→False:=by
    intro j i y x q q' a1 a2 hyd a3 b2 b3 b5
    rcases hcb b ⟨i,x,q',b2,b3,b5⟩ with ⟨k,z,q'',hz,hzd,hk⟩|hge
    ·obtain ⟨i',hi',c1,_,c2⟩:=hblk k z _ hz hzd hk
     have:=hH.inj j i' y _ b q q'' a2 c1 hyd (cF hzd) a3 c2
     subst this
     exact a1 (List.mem_of_getElem? hi')
    ·have:=hH.live_lt ⟨j,y,q,a2,hyd,a3⟩
     omega
   rcases back j y _ hy hd hj with ⟨a1,a2,a3⟩|⟨i,x,a1,a2,a3,a4,a5⟩
   ·rcases back j' y' _ hy' hd' hj' with ⟨b1,b2,b3⟩|⟨i',x',b1,b2,b3,b4,b5⟩
    ·exact hH.inj j j' y y' b q q' a2 b2 hd hd' a3 b3
    ·exact (cross j i' y x' q q' a1 a2 hd a3 b2 b3 b5).elim
   ·rcases back j' y' _ hy' hd' hj' with ⟨b1,b2,b3⟩|⟨i',x',b1,b2,b3,b4,b5⟩
    ·exact (cross j' i y' x q' q b1 b2 hd' b3 a2 a3 a5).elim
    ·have:=h3.inj i i' x x' b q q' a2 b2 a3 b3 a5 b5
     subst this
     rw [←a1,←b1]
  ·refine ⟨h3.fr.os.trans hH.fr.os,h3.fr.tape.trans hH.fr.tape,h3.fr.output.trans hH.fr.output,Nat.le_trans hsz0 h3.fr.size,fun b hb hL=>?_⟩
   have:w'.heap[b]?=w.heap[b]?:=h3.fr.block b (Nat.lt_of_lt_of_le hb hsz0) (fun hl=>by
    obtain ⟨k,q,x,hx,hd,hk⟩:=hlivec b hl
    rcases (hH.obj k q b x hx hk hd).1 with c1|c1
    ·exact hL c1
    ·omega)
   exact this.trans (hH.fr.block b hb hL)
 exact ⟨u,_,_,ρ2,h1,hK v hp' h2,hstep,HD hren hokE h5⟩
theorem pf {g:FuncId} {xs:List AV} {R:AV→List ABlk→Prop} {K:AV→List ABlk→Prop} (c:ab P [] g xs R) (hargs:inL 0 xs) (hid:renL (mAt [] hp.length) xs=xs)
  (hK:∀ v hp',R v hp'→K (renV (br [] hp.length) v) (hp++dh (br [] hp.length) hp')):om P hp g xs K:=by
 have:=jx (hp:=hp) [] (chp:=[]) (cargs:=xs) (R:=R) (K:=K) c rfl List.nodup_nil (by simp) hargs (by simp [ky]) (fun v hp' h=>by
  have:=hK v hp' h
  have e:bB (br [] hp.length) hp [] hp'=hp:=by cases hp'<;>simp [bB]
  rw [e]
  simpa using this)
 rwa [hid] at this
theorem ab.mono {g:FuncId} {xs:List AV} {R R':AV→List ABlk→Prop} (c:ab P hp g xs R) (h:∀ v hp',R v hp'→R' v hp'):ab P hp g xs R':=
 ⟨c.1,fun E w us h1 h2 h3=>(c.2 E w us h1 h2 h3).mono fun _ _ ⟨u,v,hp',ρ',q1,q2,q3⟩=>⟨u,v,hp',ρ',q1,h v hp' q2,q3⟩⟩
end
end Go.Proofs.YtjcooccnfkfjhaaGreatDoor
namespace Go.Proofs.YtjcooccnfkfjhaaGreatDoor
set_option linter.unusedVariables false
set_option linter.unusedSimpArgs false
open Go Go.RowKit
def HC (v:Value) (d:DV):Bool:=
 match d,v with
 |.int k n,.int k' n'=>k==k'&&n==n'
 |.bool b,.bool b'=>b==b'
 |.str l,.string s=>s.data.toList==l
 |.sc (.pointer none),.pointer none=>true
 |.sc (.slice none 0 0),.slice none 0 0=>true
 |.sc (.map none),.map none=>true
 |.sc .nilFunc,.nilFunc=>true
 |.sc .nilIface,.nilIface=>true
 |_,_=>false
theorem Fh {v:Value} {d:DV} (h:HC v d=true):v=d.val∧d.val.oneCell'=true∧∀ sz rs,d≠.sl sz rs:=by
 unfold HC at h
 split at h
 ·simp at h;obtain ⟨rfl,rfl⟩:=h;exact ⟨rfl,rfl,by simp⟩
 ·simp at h;subst h;exact ⟨rfl,rfl,by simp⟩
 ·rename_i l s
  simp at h;subst h;exact ⟨by simp [DV.val,aG],rfl,by simp⟩
 ·exact ⟨rfl,rfl,by simp⟩
 ·exact ⟨rfl,rfl,by simp⟩
 ·exact ⟨rfl,rfl,by simp⟩
 ·exact ⟨rfl,rfl,by simp⟩
 ·exact ⟨rfl,rfl,by simp⟩
 ·cases h
def ma:List Value→List DV→Bool
 |[],[]=>true
 |v::l,d::r=>HC v d&&ma l r
 |_,_=>false
theorem oQ:∀ {l:List Value} {r:List DV},ma l r=true→l=r.map DV.val∧∀ x,x∈r→x.val.oneCell'=true∧∀ sz rs,x≠.sl sz rs
 |[],[],_=>⟨rfl,by simp⟩
 | v::l,d::r,h=>by
   simp only [ma,Bool.and_eq_true] at h
   obtain ⟨h1,h2,h3⟩:=Fh h.1
   obtain ⟨h4,h5⟩:=oQ h.2
   refine ⟨by rw [List.map_cons,←h1,←h4],fun x hx=>?_⟩
   rcases List.mem_cons.1 hx with rfl|hx
   ·exact ⟨h2,h3⟩
   ·exact h5 x hx
 |[],_::_,h=>by simp [ma] at h
 |_::_,[],h=>by simp [ma] at h
def EK (P:Program) (t s:Nat):Bool:=match P.info? t with|some i=>i.size==s&&!(s==0)|none=>false
def iD (P:Program):List Field→List (Nat×Nat×TypeId)→Bool
 |[],[]=>true
 |f::l,(o,s,t)::r=>f.offset==o&&f.type==t&&EK P t s&&iD P l r
 |_,_=>false
theorem oX {P:Program}:∀ {l:List Field} {r:List (Nat×Nat×TypeId)},iD P l r=true→l.length=r.length∧
  ∀ (j:Nat) (o s t:Nat),r[j]?=some (o,s,t)→∃ f,l[j]?=some f∧f.offset=o∧f.type=t∧s≠0∧∃ i,P.info? t=some i∧i.size=s
 |[],[],_=>⟨rfl,by simp⟩
 | f :: l,(o,s,t)::r,h=>by
   simp only [iD,Bool.and_eq_true,beq_iff_eq] at h
   obtain ⟨⟨⟨h1,h2⟩,h3⟩,h4⟩:=h
   obtain ⟨h5,h6⟩:=oX h4
   refine ⟨by simp [h5],fun j o' s' t' hj=>?_⟩
   match j with
   | 0 =>
     simp at hj
     obtain ⟨rfl,rfl,rfl⟩:=hj
     unfold EK at h3
     cases hi:P.info? t with
     |none=>simp [hi] at h3
     | some i=>
       simp [hi] at h3
       exact ⟨f,rfl,h1,h2,h3.2,i,rfl,h3.1⟩
   |j+1=>simpa using h6 j o' s' t' (by simpa using hj)
 |[],_::_,h=>by simp [iD] at h
 |_::_,[],h=>by simp [iD] at h
def zU (P:Program) (d:TypeDesc) (k:TK):Bool:=
 match k,d with
 |.int a,.int b=>a==b
 |.bool,.bool=>true
 |.str,.string=>true
 |.slice a,.slice b=>a==b
 |.struct fs,.struct fields=>iD P fields.toList fs
 |.array n e,.array n' e'=>n==n'&&e==e'
 |.pointer e,.pointer e'=>e==e'
 |.map a b,.map a' b'=>a==a'&&b==b'
 |.func,.func _ _ _=>true
 |_,_=>false
theorem th {P:Program} {d:TypeDesc} {k:TK} (h:zU P d k=true):D5 P d k:=by
 unfold zU at h
 split at h
 ·simp at h;subst h;rfl
 ·rfl
 ·rfl
 ·simp at h;subst h;rfl
 ·rename_i fs fields
  obtain ⟨h1,h2⟩:=oX h
  exact ⟨fields,rfl,by simpa using h1,fun j o s t hj=>by
   obtain ⟨f,q1,q2⟩:=h2 j o s t hj
   exact ⟨f,by simpa using q1,q2⟩⟩
 ·simp at h;obtain ⟨rfl,rfl⟩:=h;rfl
 ·simp at h;subst h;rfl
 ·simp at h;obtain ⟨rfl,rfl⟩:=h;rfl
 ·exact ⟨_,_,_,rfl⟩
 ·cases h
def D1 (z:Option Value) (ti:TI):Bool:=
 match z with
 |some (.agg cs)=>ti.agg&&ma cs.toList ti.zero
 |some v=>!ti.agg&&ma [v] ti.zero
 |none=>false
def LO:TK→TK→Bool
 |.int k,.int k'=>k==k'
 |.bool,.bool=>true
 |.str,.str=>true
 |_,_=>false
def tv:List TK→List TK→Bool
 |[],[]=>true
 |a::l,b::r=>LO a b&&tv l r
 |_,_=>false
theorem xy:∀ {l r:List TK},tv l r=true→l=r
 |[],[],_=>rfl
 | a::l,b::r,h=>by
   simp only [tv,Bool.and_eq_true] at h
   rw [xy h.2]
   have h1:=h.1
   unfold LO at h1
   split at h1<;>first|rfl|(simp at h1;rw [h1])|cases h1
 |[],_::_,h=>by simp [tv] at h
 |_::_,[],h=>by simp [tv] at h
def GQ (P:Program) (t:TypeId) (ks:List TK):Bool:=
 (match fS P 8 t with|some l=>tv l ks|none=>false)&&!(P.eqGuardType P.depth t)&&(match P.underlying t with|some (.struct _)=>true|_=>false)
theorem Hm {P:Program} {t:TypeId} {ks:List TK} (h:GQ P t ks=true):FK P t ks:=by
 simp only [GQ,Bool.and_eq_true,Bool.not_eq_true'] at h
 obtain ⟨⟨h1,h2⟩,h3⟩:=h
 refine ⟨?_,h2,?_⟩
 ·split at h1
  ·rename_i l e;rw [e,xy h1]
  ·cases h1
 ·split at h3
  ·rename_i fs e;exact ⟨fs,e⟩
  ·cases h3
def pD (P:Program) (t:TypeId) (ti:TI):Bool:=
 match P.info? t,P.underlying t with
 |some i,some d=>i.size==ti.size&&i.bytes==ti.bytes&&D1 i.zero ti&&zU P d ti.kind&&ti.zero.length==ti.size&&(ti.cmp.isEmpty||GQ P t ti.cmp)
 |_,_=>false
theorem yH {P:Program} {t:TypeId} {ti:TI} (h:pD P t ti=true):TyOk P t ti:=by
 unfold pD at h
 split at h
 ·rename_i i d hi hd
  simp only [Bool.and_eq_true,beq_iff_eq] at h
  obtain ⟨⟨⟨⟨⟨h1,h2⟩,h3⟩,h4⟩,h5⟩,hcm⟩:=h
  have hcm:ti.cmp≠[]→FK P t ti.cmp:=fun hne=>by
   simp only [Bool.or_eq_true,List.isEmpty_iff] at hcm
   rcases hcm with e|e
   ·exact absurd e hne
   ·exact Hm e
  unfold D1 at h3
  split at h3
  ·rename_i cs hz
   simp only [Bool.and_eq_true] at h3
   obtain ⟨h6,h7⟩:=h3
   obtain ⟨h8,h9⟩:=oQ h7
   refine ⟨⟨i,_,hi,h1,h2,hz,?_⟩,⟨d,hd,th h4⟩,h9,h5,hcm⟩
   rw [if_pos h6,←h8]
  ·rename_i v _ hz
   simp only [Bool.and_eq_true,Bool.not_eq_true'] at h3
   obtain ⟨h6,h7⟩:=h3
   obtain ⟨h8,h9⟩:=oQ h7
   refine ⟨⟨i,_,hi,h1,h2,hz,?_⟩,⟨d,hd,th h4⟩,h9,h5,hcm⟩
   rw [h6,if_neg (by simp),←h8]
  ·cases h3
 ·cases h
def TI.none:TI:={ size:=0,bytes:=0,zero:=[],kind:=.other }
def tn (l:List (Nat×TI)) (t:TypeId):TI:=
 match l with
 |[]=>TI.none
 |(k,ti)::r=>if k=t then ti else tn r t
theorem xu {P:Program}:∀ {l:List (Nat×TI)},(∀ p,p∈l→pD P p.1 p.2=true)→an P (tn l)
 |[],_,t=>by simp [tn,TI.none]
 | (k,ti)::r,h,t=>by
   have ih:=xu (l:=r) (fun p hp=>h p (List.mem_cons_of_mem _ hp)) t
   by_cases e:k=t
   ·subst e
    have:=yH (h (k,ti) (by simp))
    simp only [tn,if_true]
    cases ti.kind<;>first|trivial|exact this
   ·simp only [tn,if_neg e]
    exact ih
/-! ### nil where data is wanted -/
mutual
def gY:DV→DV→Prop
 |.sc (.slice none 0 0),.sl _ []=>True
 |.sl n rs,.sl m qs=>n=m∧jT rs qs
 |x,y=>x=y
def jT:List (List DV)→List (List DV)→Prop
 |[],[]=>True
 |r::rs,q::qs=>ie r q∧jT rs qs
 |_,_=>False
def ie:List DV→List DV→Prop
 |[],[]=>True
 |x::r,y::q=>gY x y∧ie r q
 |_,_=>False
end
mutual
def df:AV→AV→Prop
 |.d x,.d y=>x=y∨gY x y
 |.agg xs,.agg ys=>fT xs ys
 |.tup xs,.tup ys=>fT xs ys
 |x,y=>x=y
def fT:List AV→List AV→Prop
 |[],[]=>True
 |x::r,y::l=>df x y∧fT r l
 |_,_=>False
end
theorem iT:∀ {xs ys:List DV},ie xs ys→xs.length=ys.length∧∀ (j:Nat) (x y:DV),xs[j]?=some x→ys[j]?=some y→gY x y
 |[],[],_=>⟨rfl,by simp⟩
 | x::r,y::l,h=>by
   simp only [ie] at h
   obtain ⟨h1,h2⟩:=iT h.2
   refine ⟨by simp [h1],fun j a b ha hb=>?_⟩
   match j with
   |0=>simp at ha hb;subst ha;subst hb;exact h.1
   |j+1=>exact h2 j a b (by simpa using ha) (by simpa using hb)
 |[],_::_,h=>by simp [ie] at h
 |_::_,[],h=>by simp [ie] at h
theorem tx:∀ {xs ys:List (List DV)},jT xs ys→xs.length=ys.length∧∀ (j:Nat) (x y:List DV),xs[j]?=some x→ys[j]?=some y→ie x y
 |[],[],_=>⟨rfl,by simp⟩
 | x::r,y::l,h=>by
   simp only [jT] at h
   obtain ⟨h1,h2⟩:=tx h.2
   refine ⟨by simp [h1],fun j a b ha hb=>?_⟩
   match j with
   |0=>simp at ha hb;subst ha;subst hb;exact h.1
   |j+1=>exact h2 j a b (by simpa using ha) (by simpa using hb)
 |[],_::_,h=>by simp [jT] at h
 |_::_,[],h=>by simp [jT] at h
theorem kx:∀ {xs ys:List AV},fT xs ys→xs.length=ys.length∧∀ (j:Nat) (x y:AV),xs[j]?=some x→ys[j]?=some y→df x y
 |[],[],_=>⟨rfl,by simp⟩
 | x::r,y::l,h=>by
   simp only [fT] at h
   obtain ⟨h1,h2⟩:=kx h.2
   refine ⟨by simp [h1],fun j a b ha hb=>?_⟩
   match j with
   |0=>simp at ha hb;subst ha;subst hb;exact h.1
   |j+1=>exact h2 j a b (by simpa using ha) (by simpa using hb)
 |[],_::_,h=>by simp [fT] at h
 |_::_,[],h=>by simp [fT] at h
theorem FU {ok:Nat→Prop} {w:World} {x:DV} {v:Value} (h:RepD ok w x v):∀ y,gY x y→RepD ok w y v:=by
 induction h with
 |int k n => intro y hc;have:DV.int k n=y:=by cases y<;>(simp only [gY] at hc;exact hc)
             subst this;exact .int k n
 |bool b => intro y hc;have:DV.bool b=y:=by cases y<;>(simp only [gY] at hc;exact hc)
            subst this;exact .bool b
 |str l => intro y hc;have:DV.str l=y:=by cases y<;>(simp only [gY] at hc;exact hc)
           subst this;exact .str l
 | sc v h=>
   intro y hc
   unfold gY at hc
   split at hc
   ·rename_i sz e
    injection e with e
    subst e
    exact .sl sz [] none 0 (fun _ _=>undef) (by simp) (by simp) (by simp) (by simp)
   ·rename_i e;cases e
   ·subst hc;exact .sc v h
 | sc0 A=>
   intro y hc
   unfold gY at hc
   split at hc
   ·rename_i sz e
    exact .sl sz [] A 0 (fun _ _=>undef) (by simp) (by simp) (by simp) (by simp)
   ·rename_i e;cases e
   ·subst hc;exact .sc0 A
 | sl sz rows A cap u hcap hsz hc hr ih=>
   intro y hco
   unfold gY at hco
   split at hco
   ·rename_i e;cases e
   ·rename_i n rs m qs e
    injection e with e1 e2
    subst e1;subst e2
    obtain ⟨e3,hco⟩:=hco
    subst e3
    obtain ⟨hl,hg⟩:=tx hco
    have back:∀ (i:Nat) (r':List DV),qs[i]?=some r'→∃ r,rows[i]?=some r∧ie r r':=fun i r' hi=>by
     have hlt:i<rows.length:=by rw [hl];exact (List.getElem?_eq_some_iff.1 hi).1
     exact ⟨_,List.getElem?_eq_getElem hlt,hg i _ r' (List.getElem?_eq_getElem hlt) hi⟩
    rw [hl]
    refine .sl sz qs A cap u (by rw [←hl];exact hcap) (fun r' hr'=>?_) (fun hp=>?_) fun i r' hi j c' hj=>?_
    ·obtain ⟨i,hi⟩:=List.mem_iff_getElem?.1 hr'
     obtain ⟨r,h1,h2⟩:=back i r' hi
     rw [←(iT h2).1];exact hsz r (List.mem_of_getElem? h1)
    ·obtain ⟨b,o,h1,h2,h3⟩:=hc (by rw [hl];exact hp)
     refine ⟨b,o,h1,h2,fun i r' hi j c' hj=>?_⟩
     obtain ⟨r,h4,h5⟩:=back i r' hi
     have hlt:j<r.length:=by rw [(iT h5).1];exact (List.getElem?_eq_some_iff.1 hj).1
     exact h3 i r h4 j _ (List.getElem?_eq_getElem hlt)
    ·obtain ⟨r,h4,h5⟩:=back i r' hi
     have hlt:j<r.length:=by rw [(iT h5).1];exact (List.getElem?_eq_some_iff.1 hj).1
     exact ih i r h4 j _ (List.getElem?_eq_getElem hlt) c' ((iT h5).2 j _ c' (List.getElem?_eq_getElem hlt) hj)
   ·subst hco;exact .sl sz rows A cap u hcap hsz hc hr
theorem pQ {ρ:List (Option (Nat×Nat))} {ok:Nat→Prop} {w:World} {x:AV} {u:Value} (h:RepV ρ ok w x u):∀ y,df x y→RepV ρ ok w y u:=by
 induction h with
 | agg cs us hl h1 hr ih=>
   intro y hc
   unfold df at hc
   split at hc
   ·rename_i e;cases e
   ·rename_i xs ys e
    injection e with e
    subst e
    obtain ⟨q1,q2⟩:=kx hc
    refine .agg _ _ (by rw [hl,q1]) h1 fun j c u hcj hu=>?_
    have hj:j<cs.length:=by rw [q1];exact (List.getElem?_eq_some_iff.1 hcj).1
    exact ih j _ u (List.getElem?_eq_getElem hj) hu c (q2 j _ c (List.getElem?_eq_getElem hj) hcj)
   ·rename_i e;cases e
   ·subst hc;exact .agg cs us hl h1 hr
 | d x v h=>
   intro y hc
   unfold df at hc
   split at hc
   ·rename_i a b e
    injection e with e
    subst e
    rcases hc with hc|hc
    ·subst hc;exact .d _ _ h
    ·exact .d _ _ (FU h _ hc)
   ·rename_i e;cases e
   ·rename_i e;cases e
   ·subst hc;exact .d x v h
 | tup cs us hl hr ih=>
   intro y hc
   unfold df at hc
   split at hc
   ·rename_i e;cases e
   ·rename_i e;cases e
   ·rename_i xs ys e
    injection e with e
    subst e
    obtain ⟨q1,q2⟩:=kx hc
    refine .tup _ _ (by rw [hl,q1]) fun j c u hcj hu=>?_
    have hj:j<cs.length:=by rw [q1];exact (List.getElem?_eq_some_iff.1 hcj).1
    exact ih j _ u (List.getElem?_eq_getElem hj) hu c (q2 j _ c (List.getElem?_eq_getElem hj) hcj)
   ·subst hc;exact .tup cs us hl hr
 |ptr k off b m h => intro y hc;have:AV.ptr k off=y:=by cases y<;>(simp only [df] at hc;exact hc)
                     subst this;exact .ptr k off b m h
 |rp k sz i off b m h => intro y hc;have:AV.rp k sz i off=y:=by cases y<;>(simp only [df] at hc;exact hc)
                         subst this;exact .rp k sz i off b m h
 |osl k sz off n b m cap h hm hn => intro y hc;have:AV.osl k sz off n=y:=by cases y<;>(simp only [df] at hc;exact hc)
                                    subst this;exact .osl k sz off n b m cap h hm hn
 | oslnil k sz A h=>
   intro y hc
   have:AV.osl k sz 0 0=y:=by cases y<;>(simp only [df] at hc;exact hc)
   subst this;exact .oslnil k sz A h
 |dp row off b o u hb hc' hr => intro y hc;have:AV.dp row off=y:=by cases y<;>(simp only [df] at hc;exact hc)
                                subst this;exact .dp row off b o u hb hc' hr
 |clo f first caps us vs hl hl' hr hr' _ _ => intro y hc;have:AV.clo f first caps=y:=by cases y<;>(simp only [df] at hc;exact hc)
                                              subst this;exact .clo f first caps us vs hl hl' hr hr'
 |gd g v u ht hf _ => intro y hc;have:AV.gd g v=y:=by cases y<;>(simp only [df] at hc;exact hc)
                      subst this;exact .gd g v u ht hf
 |mp k b m h => intro y hc;have:AV.mp k=y:=by cases y<;>(simp only [df] at hc;exact hc)
                subst this;exact .mp k b m h
 |any u => intro y hc;have:AV.any=y:=by cases y<;>first|rfl|(simp only [df] at hc;exact hc)
           subst this;exact .any u
mutual
theorem sI:∀ (x:AV),df x x
 |.d x=>by simp [df]
 |.agg xs=>by simp only [df];exact lq xs
 |.tup xs=>by simp only [df];exact lq xs
 |.ptr _ _=>by simp only [df]
 |.rp _ _ _ _=>by simp only [df]
 |.osl _ _ _ _=>by simp only [df]
 |.dp _ _=>by simp only [df]
 |.clo _ _ _=>by simp only [df]
 |.gd _ _=>by simp only [df]
 |.mp _=>by simp only [df]
 |.any=>by simp only [df]
theorem lq:∀ (xs:List AV),fT xs xs
 |[]=>by simp only [fT]
 |x::r=>by simp only [fT];exact ⟨sI x,lq r⟩
end
theorem ab.coe {P:Program} {hp:List ABlk} {g:FuncId} {xs ys:List AV} {R:AV→List ABlk→Prop} (c:ab P hp g ys R) (h:fT xs ys):ab P hp g xs R:=by
 refine ⟨c.1,fun E w us h1 h2 h3=>c.2 E w us h1 h2 ?_⟩
 obtain ⟨q1,q2⟩:=kx h
 refine ⟨by rw [h3.1,q1],fun j y u hy hu=>?_⟩
 have hj:j<xs.length:=by rw [q1];exact (List.getElem?_eq_some_iff.1 hy).1
 exact pQ (h3.2 j _ u (List.getElem?_eq_getElem hj) hu) y (q2 j _ y (List.getElem?_eq_getElem hj) hy)
theorem ag.coe {np:Nat} {hp:List ABlk} {v v':AV} {R:AV→List ABlk→Prop} (hc:df v v') (h:ag np hp v' R):ag np hp v R:=
 fun E ρ w u h1 h2 h3 h4=>h E ρ w u h1 h2 h3 (pQ h4 v' hc)
theorem Jz (x:DV):ai (.d x)=.d x:=rfl
theorem Dv (x:List AV):ai (.agg x)=.agg x:=rfl
theorem C4 (x:List AV):ai (.tup x)=.tup x:=rfl
theorem CB (k o:Nat):ai (.ptr k o)=.ptr k o:=rfl
theorem EQ (k:Nat):ai (.mp k)=.mp k:=rfl
theorem Gu (k s i o:Nat):ai (.rp k s i o)=.rp k s i o:=rfl
theorem BU (k s i o:Nat):ai (.osl k s i o)=.osl k s i o:=rfl
theorem EX (r:List DV) (o:Nat):ai (.dp r o)=.dp r o:=rfl
theorem Cm (f:FuncId) (a b:List AV):ai (.clo f a b)=.clo f a b:=rfl
theorem Eu (g:Bool) (v:AV):ai (.gd g v)=v:=rfl
theorem Bu:ai .any=.any:=rfl
theorem KW (x:DV):cE (.d x)=True:=rfl
theorem FB (x:List AV):cE (.agg x)=True:=rfl
theorem Ee (x:List AV):cE (.tup x)=True:=rfl
theorem F4 (k o:Nat):cE (.ptr k o)=True:=rfl
theorem I4 (k:Nat):cE (.mp k)=True:=rfl
theorem HS (k s i o:Nat):cE (.rp k s i o)=True:=rfl
theorem Gp (k s i o:Nat):cE (.osl k s i o)=True:=rfl
theorem HV (r:List DV) (o:Nat):cE (.dp r o)=True:=rfl
theorem Gd (f:FuncId) (a b:List AV):cE (.clo f a b)=True:=rfl
theorem JH (g:Bool) (v:AV):cE (.gd g v)=(g=true):=rfl
theorem FP:cE .any=True:=rfl
theorem TI.agg_mk (a b:Nat) (z:List DV) (k:TK) (c:List TK):TI.agg { size:=a,bytes:=b,zero:=z,kind:=k,cmp:=c }=(match k with|.struct _=>true|.array _ _=>true|_=>false):=rfl
theorem DI (t:Nat):bS [] t=.any:=rfl
theorem BS (k:Nat) (v:AV) (r:List (Nat×AV)) (t:Nat):bS ((k,v)::r) t=if k=t then v else bS r t:=rfl
theorem Hu (s:ASt) (t:Tmp):au s (.tmp t)=bS s.env t:=rfl
theorem Hn (s:ASt) (k:IntKind) (n:Int):au s (.const (.int k n))=.d (.int k n):=rfl
theorem Ci (s:ASt) (b:Bool):au s (.const (.bool b))=.d (.bool b):=rfl
theorem Fa (s:ASt) (b:ByteArray):au s (.const (.string b))=.d (.str b.data.toList):=rfl
theorem za (s:ASt):au s (.const (.slice none 0 0))=.d (.sc (.slice none 0 0)):=rfl
theorem xb (s:ASt):au s (.const (.pointer none))=.d (.sc (.pointer none)):=rfl
theorem Cd (s:ASt) (f:FuncId):au s (.func f)=.d (.sc (.func (.func f) #[] #[])):=rfl
theorem Fo (P:Program) (T:TypeId→TI) (ops:Array Oper) (Q:ASt→Prop) (s:ASt):ya P T ops Q [] s=Q s:=rfl
theorem Cn (P:Program) (T:TypeId→TI) (ops:Array Oper) (Q:ASt→Prop) (o:Oper) (r:List Oper) (s:ASt):ya P T ops Q (o::r) s=kI P T ops s o (ya P T ops Q r):=rfl
theorem BA (P:Program) (T:TypeId→TI) (ops:Array Oper) (Q:ASt→Prop) (s:ASt):nh P T ops Q [] s=Q s:=rfl
theorem yg (P:Program) (T:TypeId→TI) (ops:Array Oper) (Q:ASt→Prop) (o:Oper) (r:List Oper) (s:ASt):nh P T ops Q (o::r) s=eZ P T ops s o (nh P T ops Q r):=rfl
theorem Cj (p:Plan):Plan.takes [] p=p:=rfl
theorem zb (k:Nat) (ks:List Nat) (p:Plan):Plan.takes (k::ks) p=.take k (Plan.takes ks p):=rfl
theorem Am (P:Program) (T:TypeId→TI) (ops:Array Oper) (Q:ASt→Prop) (s:ASt):cL P T ops Q .done s=Q s:=rfl
theorem yK (P:Program) (T:TypeId→TI) (ops:Array Oper) (Q:ASt→Prop) (k:Nat) (p:Plan) (s:ASt):cL P T ops Q (.take k p) s=cz P T ops s ops[k]? (cL P T ops Q p):=rfl
theorem yf (P:Program) (T:TypeId→TI) (ops:Array Oper) (Q:ASt→Prop) (k k':Nat) (p p':Plan) (s:ASt):cL P T ops Q (.fork k p k' p') s=(cz P T ops s ops[k]? (cL P T ops Q p)∧cz P T ops s ops[k']? (cL P T ops Q p')):=rfl
theorem xk (P:Program) (T:TypeId→TI) (ops:Array Oper) (Q:ASt→Prop) (k k' k2:Nat) (p p' p2:Plan) (s:ASt):cL P T ops Q (.forks k p k' p' k2 p2) s=(cz P T ops s ops[k]? (cL P T ops Q p)∧cz P T ops s ops[k']? (cL P T ops Q p')∧cz P T ops s ops[k2]? (cL P T ops Q p2)):=rfl
theorem vL (P:Program) (T:TypeId→TI) (ops:Array Oper) (Q:ASt→Prop) (k k' k2 k3:Nat) (p p' p2 p3:Plan) (s:ASt):cL P T ops Q (.fork4 k p k' p' k2 p2 k3 p3) s=(cz P T ops s ops[k]? (cL P T ops Q p)∧cz P T ops s ops[k']? (cL P T ops Q p')∧cz P T ops s ops[k2]? (cL P T ops Q p2)∧cz P T ops s ops[k3]? (cL P T ops Q p3)):=rfl
attribute [go_sem] vL
theorem xl (P:Program) (T:TypeId→TI) (ops:Array Oper) (Q:ASt→Prop) (o:Oper) (s:ASt):cz P T ops s (some o) Q=bif dz o.op then kI P T ops s o Q else eZ P T ops s o Q:=rfl
theorem CC (P:Program) (T:TypeId→TI) (ops:Array Oper) (Q:ASt→Prop) (s:ASt):gP P T ops Q [] s=Q s:=rfl
theorem zw (P:Program) (T:TypeId→TI) (ops:Array Oper) (Q:ASt→Prop) (o:Oper) (r:List Oper) (s:ASt):gP P T ops Q (o::r) s=bif dz o.op then kI P T ops s o (gP P T ops Q r) else eZ P T ops s o (gP P T ops Q r):=rfl
theorem CA:ip []=True:=rfl
theorem yv (x:AV) (r:List AV):ip (x::r)=(cE x∧ip r):=rfl
theorem Ea (hp:List ABlk):cI hp []=[]:=rfl
theorem CP (hp:List ABlk) (x:AV) (r:List AV):cI hp (x::r)=aY hp x::cI hp r:=rfl
theorem zk (hp:List ABlk):bH hp []=True:=rfl
theorem wk (hp:List ABlk) (x:AV) (r:List AV):bH hp (x::r)=(bE hp x∧bH hp r):=rfl
theorem Bw:cA []=True:=rfl
theorem xU (x:AV) (r:List AV):cA (x::r)=(bY x∧cA r):=rfl
theorem Hx:cW []=[]:=rfl
theorem Cw (x:AV) (r:List AV):cW (x::r)=dM x++cW r:=rfl
theorem G7 (f:Nat→Nat):renL f []=[]:=rfl
theorem BP (f:Nat→Nat) (x:AV) (r:List AV):renL f (x::r)=renV f x::renL f r:=rfl
theorem Ij (n:Nat):inL n []=True:=rfl
theorem Dz (n:Nat) (x:AV) (r:List AV):inL n (x::r)=(inV n x∧inL n r):=rfl
theorem wQ (hp:List ABlk):killIds [] hp=hp:=rfl
theorem vt (k:Nat) (r:List Nat) (hp:List ABlk):killIds (k::r) hp=killIds r (hp.set k .dead):=rfl
theorem CN (f:Nat→Nat) (n:Nat) (e:List (Nat×AV)):nx f n e []=True:=rfl
theorem zH (f:Nat→Nat) (n:Nat) (e:List (Nat×AV)) (t:Nat) (v:AV) (r:List (Nat×AV)):nx f n e ((t,v)::r)=((bS e t=renV f v∧inV n v)∧nx f n e r):=rfl
theorem EL (f:Nat→Nat) (n:Nat) (hp:List ABlk) (i:Nat):ky f n hp i []=True:=rfl
theorem C3 (f:Nat→Nat) (n:Nat) (hp:List ABlk) (i:Nat) (x:ABlk) (r:List ABlk):ky f n hp i (x::r)=((x=.dead∨(hp[f i]?=some (renB f x)∧inB n x))∧ky f n hp (i+1) r):=rfl
theorem Gl (hp:List ABlk) (e:List (Nat×AV)):H1 hp e []=True:=rfl
theorem B0 (hp:List ABlk) (e:List (Nat×AV)) (t:Nat) (v:AV) (r:List (Nat×AV)):H1 hp e ((t,v)::r)=(((bS e t=v)∨(bE hp (bS e t)∧bY (aY hp (bS e t))∧v=aY hp (bS e t)))∧H1 hp e r):=rfl
theorem Cz (T:TypeId→TI) (s:ASt):aR T s []=(True,[]):=rfl
theorem xS (T:TypeId→TI) (s:ASt) (r:ResultVar) (l:List ResultVar):aR T s (r::l)=((qE T s r).ok∧(aR T s l).1,(qE T s r).v::(aR T s l).2):=rfl
theorem El (k:Nat):fU k []=[]:=rfl
theorem BO (k:Nat) (x:AV) (r:List AV):fU k (x::r)=(k,x)::fU (k+1) r:=rfl
theorem yP (sz:Nat) (cs:List AV):nH sz 0 cs=some []:=rfl
theorem yd (sz n:Nat) (cs:List AV):nH sz (n+1) cs=(match iH (cs.take sz),nH sz n (cs.drop sz) with|some r,some l=>some (r::l)|_,_=>none):=rfl
theorem BX:iH []=some []:=rfl
theorem yG (x:AV) (r:List AV):iH (x::r)=(match G2 x,iH r with|some y,some l=>some (y::l)|_,_=>none):=rfl
theorem uL:ay [] [] []=(True,true):=rfl
theorem rZ (k:TK) (ks:List TK) (x y:AV) (xs ys:List AV):ay (k::ks) (x::xs) (y::ys)=((eK k x y).1∧(ay ks xs ys).1,(eK k x y).2&&(ay ks xs ys).2):=rfl
theorem Do (p:Nat→Option (Nat×Nat)) (cs:List AV):fd p [] cs=(True,cs):=rfl
theorem yQ (p:Nat→Option (Nat×Nat)) (i:Nat) (v:AV) (r:List (Nat×AV)) (cs:List AV):fd p ((i,v)::r) cs=(match p i with|none=>(False,cs)|some (off,size)=>((acells v).length=size∧off+(acells v).length≤cs.length∧(lG v=false)∧(fd p r (cs.take off++acells v++cs.drop (off+(acells v).length))).1,(fd p r (cs.take off++acells v++cs.drop (off+(acells v).length))).2)):=rfl
theorem CT:fj []=some []:=rfl
theorem yN (x:AV) (r:List AV):fj (x::r)=(match aW x,fj r with|some u,some l=>some (u::l)|_,_=>none):=rfl
theorem F1:fT [] []=True:=rfl
theorem Ck (x y:AV) (r l:List AV):fT (x::r) (y::l)=(df x y∧fT r l):=rfl
theorem xR (f:Nat→Nat) (hp:List ABlk) (r:List ABlk):bB f hp [] r=hp:=by cases r<;>rfl
theorem vC (f:Nat→Nat) (hp:List ABlk) (i:Nat) (m:List Nat) (x:ABlk) (r:List ABlk):bB f hp (i::m) (x::r)=bB f (hp.set i (renB f x)) m r:=rfl
theorem uW:killRows []=[]:=rfl
theorem pZ (sz:Nat) (rs:List (List DV)) (r:List ABlk):killRows (.rows sz rs::r)=.dead::killRows r:=rfl
theorem rN (cs:List AV) (r:List ABlk):killRows (.cells cs::r)=.cells cs::killRows r:=rfl
theorem rQ (r:List ABlk):killRows (.dead::r)=.dead::killRows r:=rfl
theorem KT (hp:List ABlk) (x:DV):aY hp (.d x)=.d x:=rfl
theorem Hf (hp:List ABlk) (x:List AV):aY hp (.agg x)=.agg (cI hp x):=rfl
theorem G4 (hp:List ABlk) (x:List AV):aY hp (.tup x)=.tup (cI hp x):=rfl
theorem EA (hp:List ABlk) (k o:Nat):aY hp (.ptr k o)=.ptr k o:=rfl
theorem IH (hp:List ABlk) (k:Nat):aY hp (.mp k)=.mp k:=rfl
theorem IW (hp:List ABlk) (k sz i o:Nat):aY hp (.rp k sz i o)=.rp k sz i o:=rfl
theorem rK (hp:List ABlk) (k sz o n:Nat):aY hp (.osl k sz o n)=(match hp[k]? with|some (.rows _ rs)=>.d (.sl sz ((rs.drop o).take n))|_=>.any):=rfl
theorem I5 (hp:List ABlk) (w:List DV) (o:Nat):aY hp (.dp w o)=.dp w o:=rfl
theorem Hp (hp:List ABlk) (g:FuncId) (x y:List AV):aY hp (.clo g x y)=.clo g x y:=rfl
theorem Jg (hp:List ABlk) (g:Bool) (v:AV):aY hp (.gd g v)=.gd g v:=rfl
theorem G6 (hp:List ABlk) :aY hp (.any)=.any:=rfl
theorem ID (hp:List ABlk) (x:DV):bE hp (.d x)=True:=rfl
theorem B4 (hp:List ABlk) (x:List AV):bE hp (.agg x)=bH hp x:=rfl
theorem B2 (hp:List ABlk) (x:List AV):bE hp (.tup x)=bH hp x:=rfl
theorem Dl (hp:List ABlk) (k o:Nat):bE hp (.ptr k o)=True:=rfl
theorem Fb (hp:List ABlk) (k:Nat):bE hp (.mp k)=True:=rfl
theorem Fe (hp:List ABlk) (k sz i o:Nat):bE hp (.rp k sz i o)=True:=rfl
theorem oL (hp:List ABlk) (k sz o n:Nat):bE hp (.osl k sz o n)=(match hp[k]? with|some (.rows sz' rs)=>sz=sz'∧o+n≤rs.length|_=>False):=rfl
theorem DY (hp:List ABlk) (w:List DV) (o:Nat):bE hp (.dp w o)=True:=rfl
theorem Dh (hp:List ABlk) (g:FuncId) (x y:List AV):bE hp (.clo g x y)=True:=rfl
theorem FQ (hp:List ABlk) (g:Bool) (v:AV):bE hp (.gd g v)=True:=rfl
theorem B3 (hp:List ABlk) :bE hp (.any)=True:=rfl
theorem Kl  (x:DV):bY (.d x)=True:=rfl
theorem Gi  (x:List AV):bY (.agg x)=cA x:=rfl
theorem Gk  (x:List AV):bY (.tup x)=cA x:=rfl
theorem Fc  (k o:Nat):bY (.ptr k o)=False:=rfl
theorem HQ  (k:Nat):bY (.mp k)=False:=rfl
theorem JF  (k sz i o:Nat):bY (.rp k sz i o)=False:=rfl
theorem DL  (k sz o n:Nat):bY (.osl k sz o n)=False:=rfl
theorem HL  (w:List DV) (o:Nat):bY (.dp w o)=True:=rfl
theorem Ei  (g:FuncId) (x y:List AV):bY (.clo g x y)=False:=rfl
theorem IJ  (g:Bool) (v:AV):bY (.gd g v)=False:=rfl
theorem He  :bY (.any)=True:=rfl
theorem J0  (x:DV):dM (.d x)=[]:=rfl
theorem D6  (x:List AV):dM (.agg x)=cW x:=rfl
theorem FI  (x:List AV):dM (.tup x)=cW x:=rfl
theorem Fn  (k o:Nat):dM (.ptr k o)=[]:=rfl
theorem JB  (k:Nat):dM (.mp k)=[]:=rfl
theorem IZ  (k sz i o:Nat):dM (.rp k sz i o)=[]:=rfl
theorem Gy  (k sz o n:Nat):dM (.osl k sz o n)=[k]:=rfl
theorem IC  (w:List DV) (o:Nat):dM (.dp w o)=[]:=rfl
theorem FY  (g:FuncId) (x y:List AV):dM (.clo g x y)=[]:=rfl
theorem Ig  (g:Bool) (v:AV):dM (.gd g v)=[]:=rfl
theorem GZ  :dM (.any)=[]:=rfl
theorem Kr (f:Nat→Nat) (x:DV):renV f (.d x)=.d x:=rfl
theorem Eh (f:Nat→Nat) (x:List AV):renV f (.agg x)=.agg (renL f x):=rfl
theorem Hq (f:Nat→Nat) (x:List AV):renV f (.tup x)=.tup (renL f x):=rfl
theorem ED (f:Nat→Nat) (k o:Nat):renV f (.ptr k o)=.ptr (f k) o:=rfl
theorem H8 (f:Nat→Nat) (k:Nat):renV f (.mp k)=.mp (f k):=rfl
theorem HT (f:Nat→Nat) (k sz i o:Nat):renV f (.rp k sz i o)=.rp (f k) sz i o:=rfl
theorem E8 (f:Nat→Nat) (k sz o n:Nat):renV f (.osl k sz o n)=.osl (f k) sz o n:=rfl
theorem Ja (f:Nat→Nat) (w:List DV) (o:Nat):renV f (.dp w o)=.dp w o:=rfl
theorem Ec (f:Nat→Nat) (g:FuncId) (x y:List AV):renV f (.clo g x y)=.clo g (renL f x) (renL f y):=rfl
theorem Js (f:Nat→Nat) (g:Bool) (v:AV):renV f (.gd g v)=.gd g (renV f v):=rfl
theorem HA (f:Nat→Nat) :renV f (.any)=.any:=rfl
theorem Lx (m:Nat) (x:DV):inV m (.d x)=True:=rfl
theorem I7 (m:Nat) (x:List AV):inV m (.agg x)=inL m x:=rfl
theorem IX (m:Nat) (x:List AV):inV m (.tup x)=inL m x:=rfl
theorem IS (m:Nat) (k o:Nat):inV m (.ptr k o)=(k<m):=rfl
theorem JV (m:Nat) (k:Nat):inV m (.mp k)=(k<m):=rfl
theorem Kg (m:Nat) (k sz i o:Nat):inV m (.rp k sz i o)=(k<m):=rfl
theorem Id (m:Nat) (k sz o n:Nat):inV m (.osl k sz o n)=(k<m):=rfl
theorem KE (m:Nat) (w:List DV) (o:Nat):inV m (.dp w o)=True:=rfl
theorem JC (m:Nat) (g:FuncId) (x y:List AV):inV m (.clo g x y)=(inL m x∧inL m y):=rfl
theorem Ku (m:Nat) (g:Bool) (v:AV):inV m (.gd g v)=inV m v:=rfl
theorem IF (m:Nat) :inV m (.any)=True:=rfl
theorem Cx (k:IntKind) (n:Int):aW (.d (.int k n))=some (.int k n):=rfl
theorem Ak (b:Bool):aW (.d (.bool b))=some (.bool b):=rfl
theorem Dm (l:List UInt8):aW (.d (.str l))=some (aG l):=rfl
theorem Cg (vs:List AV):aW (.tup vs)=(fj vs).map fun l=>.tuple l.toArray:=rfl
theorem CS (cs:List AV):aW (.agg cs)=(fj cs).bind fun l=>if l.all (·.oneCell') then some (.agg l.toArray) else none:=rfl
theorem KI (x y:DV):df (.d x) (.d y)=(x=y∨gY x y):=by simp only [df]
theorem DG (x y:List AV):df (.agg x) (.agg y)=fT x y:=by simp only [df]
theorem G3 (x y:List AV):df (.tup x) (.tup y)=fT x y:=by simp only [df]
theorem HE (n:Nat):gY (.sc (.slice none 0 0)) (.sl n [])=True:=by simp only [gY]
theorem JE (n m:Nat) (l r:List (List DV)):gY (.sl n l) (.sl m r)=(n=m∧jT l r):=by simp only [gY]
theorem F3 (k:IntKind) (n:Int) (y:DV):gY (.int k n) y=(.int k n=y):=by cases y<;>simp [gY]
theorem BK (b:Bool) (y:DV):gY (.bool b) y=(.bool b=y):=by cases y<;>simp [gY]
theorem D0 (l:List UInt8) (y:DV):gY (.str l) y=(.str l=y):=by cases y<;>simp [gY]
theorem CY:jT [] []=True:=by simp only [jT]
theorem yc (r q:List DV) (rs qs:List (List DV)):jT (r::rs) (q::qs)=(ie r q∧jT rs qs):=by simp only [jT]
theorem CZ:ie [] []=True:=by simp only [ie]
theorem yD (x y:DV) (r q:List DV):ie (x::r) (y::q)=(gY x y∧ie r q):=by simp only [ie]
theorem B1 (k k':IntKind) (a b:Int):(DV.int k a=DV.int k' b)=(k=k'∧a=b):=by simp
theorem yI (a b:Bool):(DV.bool a=DV.bool b)=(a=b):=by simp
attribute [go_sem] Jz Dv C4 CB EQ Gu BU EX Cm Eu Bu KW FB Ee F4 I4 HS Gp HV Gd JH FP
attribute [go_sem] Fo Cn BA yg CC zw B8 zT Cj zb Am yK yf xk xl CA yv Ea CP zk wk Bw xU Hx Cw G7 BP Ij Dz wQ vt CN zH EL C3 Gl B0 Cz xS El BO yP yd BX yG uL rZ Do yQ CT yN F1 Ck xR vC uW pZ rN rQ KT Hf G4 EA IH IW rK I5 Hp Jg G6 ID B4 B2 Dl Fb Fe oL DY Dh FQ B3 Kl Gi Gk Fc HQ JF DL HL Ei IJ He J0 D6 FI Fn JB IZ Gy IC FY Ig GZ Kr Eh Hq ED H8 HT E8 Ja Ec Js HA Lx I7 IX IS JV Kg Id KE JC Ku IF Cx Ak Dm Cg CS KI DG G3 HE JE F3 BK D0 CY yc CZ yD B1 yI or_self true_or or_true or_false false_or
attribute [go_sem] qx.eq_def uD.eq_def An.eq_def eK.eq_def kI.eq_def vy.eq_def qf.eq_def eZ.eq_def mM.eq_def rO.eq_def qF.eq_def kZ.eq_def MC.eq_def eC.eq_def fh.eq_def lT.eq_def eW.eq_def g1.eq_def g2.eq_def xh.eq_def D7.eq_def qX.eq_def ql.eq_def nq.eq_def aun.eq_def xp.eq_def E5.eq_def K5.eq_def oY.eq_def e8.eq_def jm.eq_def Cf.eq_def CH.eq_def ub.eq_def dz.eq_def Hh.eq_def amm.eq_def FH.eq_def apart.eq_def tK.eq_def kR.eq_def Fm.eq_def oP.eq_def GN.eq_def F7.eq_def p7.eq_def yl.eq_def dN.eq_def renB.eq_def inB.eq_def mAt.eq_def br.eq_def dh.eq_def aT.eq_def dx.eq_def acells.eq_def lG.eq_def oz.eq_def ki.eq_def mi.eq_def yh.eq_def dn.eq_def o7.eq_def spl.eq_def mz.eq_def G2.eq_def o8.eq_def srcRows.eq_def wJ.eq_def sQ.eq_def jq.eq_def mg.eq_def Lb.eq_def sU.eq_def Fy.eq_def wj uR jo.eq_def IE.eq_def xn.eq_def me.eq_def qE.eq_def cQ.eq_def fR.eq_def
attribute [go_sem] Hu Hn Ci Fa za xb Cd DI BS HX rr TI.agg_mk
attribute [go_sem] IntKind.bits
attribute [go_sem] if_true if_false ite_true ite_false true_and and_true false_and and_false List.length_cons List.length_nil List.map_cons List.map_nil List.nil_append List.cons_append List.append_nil List.getElem?_cons_zero List.getElem?_cons_succ List.getElem?_nil
attribute [go_sem] List.drop_zero List.drop_succ_cons List.take_succ_cons List.take_zero List.take_nil List.drop_nil List.set_cons_zero List.set_cons_succ List.set_nil List.getD_cons_zero List.getD_cons_succ Option.map_some Option.map_none Option.bind_some Option.bind_none Option.getD_some Option.getD_none
attribute [go_sem] Bool.false_eq_true Bool.not_true Bool.not_false Bool.true_and Bool.and_true Bool.false_and Bool.and_false Bool.true_or Bool.or_true Bool.false_or Bool.or_false cond_true cond_false Bool.cond_true_left Bool.cond_false_right Bool.cond_true_right Bool.cond_false_left
attribute [go_sem] forall_const implies_true false_implies imp_self List.length_append List.length_map List.length_set List.length_replicate List.flatten_cons List.flatten_nil List.replicate_succ List.replicate_zero List.toList_toArray List.getElem?_toArray List.size_toArray decide_true decide_false
def pw (id:Nat) (N:ASt→Prop) (Q:Exit→ASt→Prop):Exit→ASt→Prop
 |.normal,s=>N s
 |.exit i,s=>if i=id then N s else Q (.exit i) s
 |e,s=>Q e s
section
variable {P:Program} {T:TypeId→TI} {s:ASt} {Q:Exit→ASt→Prop} {x y z:Code} {N:ASt→Prop}
theorem AWP.region {id:Nat} {l:List Oper} (hT:an P T) (h:∀ K:ASt→Prop,(∀ s',Q .normal s'→K s')→ya P T l.toArray K l s):AWP P (.region id l.toArray false) s Q:=fun _ ρ a w hr=>
 wp_region_lit (qQ hT (fun s' ρ' a' w' hs hr'=>⟨s',ρ',hr',hs⟩) l s ρ a w (h _ fun _ hq=>hq) hr)
theorem AWP.quiet {id:Nat} {l:List Oper} (hm:P.follows .mixedOrders=true) (hT:an P T) (hB:Region.lexB .any l.toArray=true) (h:∀ K:ASt→Prop,(∀ s',Q .normal s'→K s')→nh P T l.toArray K l s) :
  AWP P (.region id l.toArray true) s Q:=fun E ρ a w hr=>by
 refine wp_region_quiet (C:=fun w'=>Below w.heap.size w w') hm hB ⟨rfl,rfl,rfl,Nat.le_refl _,fun _ _=>rfl⟩ (pg hT (fun s' a' hs hr'=>?_) _ s a (h _ fun _ hq=>hq) hr)
 intro w' hb
 exact ⟨s',ρ,hr'.below hb,hs⟩
theorem AWP.cond {c:Operand} {b:Bool} (hc:au s c=.d (.bool b)) (h1:b=true→AWP P x s Q) (h2:b=false→AWP P y s Q):AWP P (.cond c x y) s Q:=fun E ρ a w hr=>by
 have h:=bA hr c
 rw [hc] at h
 generalize hu:a.eval c=u at h
 cases h with|d _ _ h=>cases h with|bool _=>
 cases b with
 |true=>exact wp_cond_true hu (h1 rfl E ρ a w hr)
 |false=>exact wp_cond_false hu (h2 rfl E ρ a w hr)
theorem AWP.block {id:Nat} (h:AWP P x s (pw id (Q .normal) Q)):AWP P (.block id x) s Q:=fun E ρ a w hr=>by
 refine wp_block (wpm (h E ρ a w hr) fun e a' w' hh=>?_)
 obtain ⟨s',ρ',hr',hq⟩:=hh
 cases e with
 | exit i=>
   simp only [pw] at hq
   simp only [Exit.inBlock]
   split
   ·rename_i hi;rw [if_pos hi] at hq;exact ⟨s',ρ',hr',hq⟩
   ·rename_i hi;rw [if_neg hi] at hq;exact ⟨s',ρ',hr',hq⟩
 |_=>exact ⟨s',ρ',hr',hq⟩
theorem AWP.skip (h:Q .normal s):AWP P .skip s Q:=fun _ ρ _ _ hr=>wp_skip ⟨s,ρ,hr,h⟩
theorem AWP.ret (h:Q .ret s):AWP P .ret s Q:=fun _ ρ _ _ hr=>wp_ret ⟨s,ρ,hr,h⟩
theorem AWP.exit {id:Nat} (h:Q (.exit id) s):AWP P (.exit id) s Q:=fun _ ρ _ _ hr=>wp_exit ⟨s,ρ,hr,h⟩
theorem ll (h:N s):fR N Q .normal s:=h
theorem ls (h:Q .ret s):fR N Q .ret s:=h
theorem k9 {i:Nat} (h:Q (.exit i) s):fR N Q (.exit i) s:=h
theorem oI {id:Nat} (h:N s):pw id N Q .normal s:=h
theorem oG {id:Nat} (h:Q .ret s):pw id N Q .ret s:=h
theorem oD {id:Nat} (h:N s):pw id N Q (.exit id) s:=by simp only [pw,if_true];exact h
theorem ap {id i:Nat} (hi:i≠id) (h:Q (.exit i) s):pw id N Q (.exit i) s:=by simp only [pw,if_neg hi];exact h
theorem Dn {e:Exit} {rs:List ResultVar} {R:AV→List ABlk→Prop} (he:e=.ret∨e=.normal) (h0:s.np=0) (h1:(aR T s rs).1)
  (h2:bE s.hp (cQ (aR T s rs).2)) (h3:bY (aY s.hp (cQ (aR T s rs).2))) (hR:R (aY s.hp (cQ (aR T s rs).2)) []):me T rs R e s:=by
 have:ag s.np s.hp (cQ (aR T s rs).2) R:=by rw [h0];exact ag.data h2 h3 hR
 rcases he with rfl|rfl
 ·exact ⟨h1,this⟩
 ·exact ⟨h1,this⟩
end
end Go.Proofs.YtjcooccnfkfjhaaGreatDoor
