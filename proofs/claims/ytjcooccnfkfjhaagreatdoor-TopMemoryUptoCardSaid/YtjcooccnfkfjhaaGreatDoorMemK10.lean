/- A part of what Mem leans on: texts of this claim, one behind the other. No condition. -/
import Derived.Shelf.Strconv.Itoa3
import Derived.Test.YtjcooccnfkfjhaaGreatDoorProg
import Derived.KernelRfl
import Derived.Test.YtjcooccnfkfjhaaGreatDoorMemK9
namespace Go.Proofs.YtjcooccnfkfjhaaGreatDoor
set_option linter.unusedVariables false
set_option linter.unusedSimpArgs false
open Go Go.RowKit
theorem qWf0:Pls [Plan.takes [1] (.fork 0 (Plan.takes [2,3,4] .done) 2 (Plan.takes [0,3,4] .done))]:=pls _
attribute [go_sem] Tryz.ntmps240 Tryz.results240
set_option maxRecDepth 100000
theorem Ae {α:Type} (l:List α) (i:Nat) (d:α) (h:i<l.length):l.take (i+1)=l.take i++[l.getD i d]:=by
 rw [List.take_add_one,List.getElem?_eq_getElem h];simp [List.getD_eq_getElem?_getD,h]
def qu (e:AEvent) (w:AWatch):Bool:=if w.path=e.path then (if w.kind=2 then (decide (e.kind=4)||decide (e.kind=2)) else (decide (e.kind=1)||decide (e.kind=2)||decide (e.kind=3))) else false
def keptW (e:AEvent) (l:List AWatch):List AWatch:=l.filter fun w=>!qu e w
def gQ (e:AEvent) (l:List AWatch):List ANote:=(l.filter (qu e)).map fun w=>⟨w.session,e⟩
def lE (p:List ANote×List AWatch) (e:AEvent):List ANote×List AWatch:=(p.1++gQ e p.2,keptW e p.2)
def dP (l:List AWatch) (es:List AEvent):List ANote×List AWatch:=es.foldl lE ([],l)
theorem De (l:List AWatch) (es:List AEvent) (k:Nat) (h:k<es.length):dP l (es.take (k+1))=lE (dP l (es.take k)) (es.getD k default):=by
 have:es.take (k+1)=es.take k++[es.getD k default]:=cD es k h
 unfold dP;rw [this,List.foldl_append];rfl
theorem tL (e:AEvent) (l:List AWatch) (k:Nat) (h:k<l.length):keptW e (l.take (k+1))=if qu e (l.getD k default)=true then keptW e (l.take k) else keptW e (l.take k)++[l.getD k default]:=by
 have:l.take (k+1)=l.take k++[l.getD k default]:=cD l k h
 unfold keptW;rw [this,List.filter_append]
 generalize l.getD k default=x
 split<;>rename_i hh<;>simp [hh]
theorem sS (e:AEvent) (l:List AWatch) (k:Nat) (h:k<l.length):gQ e (l.take (k+1))=if qu e (l.getD k default)=true then gQ e (l.take k)++[⟨(l.getD k default).session,e⟩] else gQ e (l.take k):=by
 have:l.take (k+1)=l.take k++[l.getD k default]:=cD l k h
 unfold gQ;rw [this,List.filter_append]
 generalize l.getD k default=x
 split<;>rename_i hh<;>simp [hh]
theorem tG (e:AEvent) (l:List AWatch):(gQ e l).length+(keptW e l).length=l.length:=by
 induction l with
 |nil=>rfl
 | cons x l ih=>
   unfold gQ keptW at *
   cases hx:qu e x<;>simp [hx] at *<;>omega
theorem nf (l:List AWatch):∀ (es:List AEvent),(dP l es).1.length+(dP l es).2.length=l.length:=by
 have key:∀ (es:List AEvent) (p:List ANote×List AWatch),(es.foldl lE p).1.length+(es.foldl lE p).2.length=p.1.length+p.2.length:=by
  intro es
  induction es with
  |nil=>intro p;rfl
  | cons e es ih=>
    intro p
    have:=tG e p.2
    rw [List.foldl_cons,ih];unfold lE;simp only [List.length_append];omega
 intro es;have:=key es ([],l);simpa [dP] using this
theorem lm (w:AWatch) (e:AEvent):ab Tryz.prog [] 241 [w.av,e.av] (ret (B (qu e w))):=by
 unfold qu
 refine zJ Tryz.func241 Tryz.ntmps241 Tryz.results241 ?_;simp only [go_sem]
 (refine zW qw zn trivial (z3 ?_ ?_ ?_)<;>(repeat with_reducible intro hc))
 all_goals first
  |(rw [if_neg hc];(refine zE2 trivial ?_;(try simp (disch:=omega) only [go_sem,aa,I,B,S,zj]));done)
  |(rw [if_pos (by assumption),if_pos (by assumption)];(refine zE2 trivial ?_;(try simp (disch:=omega) only [go_sem,aa,I,B,S,zj]));done)
  |(rw [if_pos (by assumption),if_neg (by assumption)];(refine zE2 trivial ?_;(try simp (disch:=omega) only [go_sem,aa,I,B,S,zj]));done)
theorem va (l:List AWatch) (h:l.length*32≤140737488351232):ab Tryz.prog [] 238 [.d (.sl 3 (l.map AWatch.row))] (own 3 (l.map AWatch.row)):=by
 refine zJ Tryz.func238 Tryz.ntmps238 Tryz.results238 ?_;simp only [go_sem]
 (repeat' first
|(with_reducible refine AR.f ?_)
|refine ap (by decide) ?_
|(with_reducible refine AWP.cond rfl ?_ ?_<;>intro hc<;>(try simp only [hcs,beq_iff_eq,ge_iff_le,gt_iff_lt] at hc))
|((first|((first|(with_reducible first|refine zR ?_|refine zQ (by decide +kernel) ?_|refine zD (by decide +kernel) ?_|refine zE (by decide +kernel) ?_|refine zG (by decide +kernel) ?_));intro K hK)|((first|(with_reducible refine aunder_i ?_ ?_<;>intro hg)|with_reducible intro hg)<;>(first|(exfalso;simp at hg;done)|(have hg':=hg;(try simp only [hcs,beq_iff_eq,ge_iff_le,gt_iff_lt] at hg');(try simp only [hg])))))<;>(try simp (disch:=omega) only [go_sem,aa])<;>(repeat' with_reducible refine And.intro ?_ ?_)<;>(try (with_reducible refine hK _ ?_;clear hK K)))
|omega)
 ·have e:l.length=0:=by
   rcases Nat.eq_zero_or_pos l.length with h0|h0
   ·exact h0
   ·rw [hg h0] at hc;simp at hc
  rw [fu e]
  (refine kN (by first|exact .inl rfl|exact .inr rfl) rfl ?_ ?_<;>simp (disch:=omega) only [go_sem,aa])
 ·(refine kB 1 (by first|exact .inl rfl|exact .inr rfl) rfl ?_ rfl rfl ?_<;>(try simp (disch:=omega) only [go_sem,aa,List.length_map]))
theorem ui (e:AEvent) (l:List AWatch) (i:Nat) (h:∀ j,j<i→qu e (l.getD j default)=false) (hi:i≤l.length):keptW e (l.take i)=l.take i∧gQ e (l.take i)=[]:=by
 have hf:∀ x,x∈l.take i→qu e x=false:=fun x hx=>by
  obtain ⟨j,hj,rfl⟩:=List.getElem_of_mem hx
  rw [List.length_take] at hj
  have:=h j (by omega)
  rw [List.getD_eq_getElem?_getD,List.getElem?_eq_getElem (by omega)] at this
  rw [List.getElem_take];exact this
 constructor
 ·unfold keptW;exact List.filter_eq_self.2 fun x hx=>by rw [hf x hx];rfl
 ·unfold gQ;rw [List.filter_eq_nil_iff.2 fun x hx=>by rw [hf x hx];decide];rfl
theorem Jv (l:List AWatch) (h:l.length*32≤140737488351232):ab Tryz.prog [] 242 [.d (.sl 3 (l.map AWatch.row))] (ret (.d (.sl 3 (l.map AWatch.row)))):=by
 have t2:List.take l.length (l.map AWatch.row)=l.map AWatch.row:=List.take_of_length_le (by simp)
 rcases Nat.eq_zero_or_pos l.length with h0|h0
 ·rw [fu h0]
  refine zJ Tryz.func242 Tryz.ntmps242 Tryz.results242 ?_;simp only [go_sem]
  (refine zW qw zn trivial (z1 ?_)<;>(repeat with_reducible intro hc))
  all_goals exact zEe trivial
 have e0:¬ ((l.length:Nat):Int)=0:=by omega
 refine zJ Tryz.func242 Tryz.ntmps242 Tryz.results242 ?_;simp only [go_sem]
 (refine zW qw zn (zx @t2 (zx @Nat.sub_zero @e0)) (z1 ?_)<;>(repeat with_reducible intro hc))
 all_goals exact zEe (zx @t2 (zx @Nat.sub_zero @e0))
set_option maxHeartbeats 8000000 in
theorem K3 (l:List AWatch) (es:List AEvent) (h:l.length*32≤140737488351232) (he:es.length*24≤140737488351232):ab Tryz.prog [] 185 [.d (.sl 3 (l.map AWatch.row)),.d (.sl 2 (es.map AEvent.row))]
  (ret (.tup [.d (.sl 3 ((dP l es).1.map ANote.row)),.d (.sl 3 ((dP l es).2.map AWatch.row))])):=by
 refine zJ Tryz.func185 Tryz.ntmps185 Tryz.results185 ?_;simp only [go_sem]
 (refine zW qw (z1 (va l h)) trivial (z1 ?_)<;>(repeat with_reducible intro hc))
 refine AWP.weaken (aM.nilOwnC 1 0 3 rfl rfl) ?_
 simp only [go_sem]
 refine AWP.loopB (ι:=Nat) (fun k=>k≤es.length) (fun k=>es.length-k) [12,13] (fun k=>[(6,.osl 0 3 0 (dP l (es.take k)).2.length),(7,.ptr 1 0),(14,I k)]) (fun k=>[.rows 3 ((dP l (es.take k)).2.map AWatch.row),.cells [.osl 2 3 0 (dP l (es.take k)).1.length],.rows 3 ((dP l (es.take k)).1.map ANote.row)]) 0 ?_ ?_ ?_
 ·omega
 ·simp only [go_sem];exact zSm (zx @dP.eq_1 @List.foldl_nil.{0,0})
 intro k hk
 simp only [go_sem]
 by_cases hk2:k<es.length
 case neg=>
  have hke:k=es.length:=by omega
  subst hke
  rw [List.take_length]
  generalize hpe:dP l es=p
  obtain ⟨ns,ws⟩:=p
  have t1:List.take ns.length (ns.map ANote.row)=ns.map ANote.row:=List.take_of_length_le (by simp)
  have t2:List.take ws.length (ws.map AWatch.row)=ws.map AWatch.row:=List.take_of_length_le (by simp)
  have hcl:=Jv ws (by have:=nf l es;rw [hpe] at this;simp only at this;omega)
  (refine zW qw (z2 qWf0 hcl) (zx @t1 @t2) (z2 ?_ ?_)<;>(repeat with_reducible intro hc))
  all_goals exact zEe (zx @t1 @t2)
 have hs:=De l es k hk2
 have hl:=nf l (es.take k)
 generalize dP l (es.take k)=p at hs hl ⊢
 obtain ⟨ns,ws⟩:=p
 simp only at hl ⊢
 (repeat' first
|(with_reducible refine AR.f ?_)
|refine ap (by decide) ?_
|(with_reducible refine AWP.cond rfl ?_ ?_<;>intro hc<;>(try simp only [hcs,beq_iff_eq,ge_iff_le,gt_iff_lt] at hc))
|(refine bM fun Kk hKk=>(cm bQ Tryz.func239 rfl (by kernel_rfl) (by simp [Tryz.ntmps239]) ?_);simp only [Tryz.ntmps239,Tryz.results239,List.toList_toArray,fU,List.length_nil,List.length_cons,Nat.reduceAdd,List.length_append,List.length_set,go_sem])
|(refine bM fun Kk hKk=>(cm bQ Tryz.func262 rfl (by kernel_rfl) (by simp [Tryz.ntmps262]) ?_);simp only [Tryz.ntmps262,Tryz.results262,List.toList_toArray,fU,List.length_nil,List.length_cons,Nat.reduceAdd,List.length_append,List.length_set,go_sem])
|((first|((first|(with_reducible first|refine zR ?_|refine zQ (by decide +kernel) ?_|refine zD (by decide +kernel) ?_|refine zE (by decide +kernel) ?_|refine zG (by decide +kernel) ?_));intro K hK)|(refine aend_in (v:=?_) hKk (by first|exact .inl rfl|exact .inr rfl) ?_ ?_ ?_;rotate_left;(focus ((try simp (disch:=omega) only [go_sem,aa])<;>(try omega)<;>fail));(focus ((try simp (disch:=omega) only [go_sem,aa])<;>(first|done|exact rfl)));clear hKk Kk)|((first|(with_reducible refine aunder_i ?_ ?_<;>intro hg)|with_reducible intro hg)<;>(first|(exfalso;simp at hg;done)|(have hg':=hg;(try simp only [hcs,beq_iff_eq,ge_iff_le,gt_iff_lt] at hg');(try simp only [hg])))))<;>(try simp (disch:=omega) only [go_sem,aa])<;>(repeat' with_reducible refine And.intro ?_ ?_)<;>(try (with_reducible refine hK _ ?_;clear hK K)))
|omega)
 generalize es.getD k default=e at hs ⊢
 refine AWP.loopB (ι:=Nat) (fun i=>i≤ws.length∧∀ j,j<i→qu e (ws.getD j default)=false) (fun i=>ws.length-i) [0,1,7] (fun i=>[(8,I i)]) (fun i=>[.rows 3 (ws.map AWatch.row),.cells [.osl 2 3 0 ns.length],.rows 3 (ns.map ANote.row),.cells [I e.kind,S e.path]]) 0 ?_ ?_ ?_
 ·exact ⟨by omega,fun j hj=>by omega⟩
 ·simp only [go_sem];exact zSm trivial
 intro i ⟨hi,hi2⟩
 simp only [go_sem]
 by_cases hi3:i<ws.length
 case neg=>
  have hie:i=ws.length:=by omega
  subst hie
  obtain ⟨q1,q2⟩:=ui e ws ws.length hi2 (Nat.le_refl _)
  rw [List.take_length] at q1 q2
  (repeat' first
|(with_reducible refine AR.f ?_)
|refine ap (by decide) ?_
|(with_reducible refine AWP.cond rfl ?_ ?_<;>intro hc<;>(try simp only [hcs,beq_iff_eq,ge_iff_le,gt_iff_lt] at hc))
|(refine bM fun Kk hKk=>(cm bQ Tryz.func240 rfl (by kernel_rfl) (by simp [Tryz.ntmps240]) ?_);simp only [Tryz.ntmps240,Tryz.results240,List.toList_toArray,fU,List.length_nil,List.length_cons,Nat.reduceAdd,List.length_append,List.length_set,go_sem])
|((first|((first|(with_reducible first|refine zR ?_|refine zQ (by decide +kernel) ?_|refine zD (by decide +kernel) ?_|refine zE (by decide +kernel) ?_|refine zG (by decide +kernel) ?_));intro K hK)|(refine aend_in (v:=?_) hKk (by first|exact .inl rfl|exact .inr rfl) ?_ ?_ ?_;rotate_left;(focus ((try simp (disch:=omega) only [go_sem,aa])<;>(try omega)<;>fail));(focus ((try simp (disch:=omega) only [go_sem,aa])<;>(first|done|exact rfl)));clear hKk Kk)|((first|(with_reducible refine aunder_i ?_ ?_<;>intro hg)|with_reducible intro hg)<;>(first|(exfalso;simp at hg;done)|(have hg':=hg;(try simp only [hcs,beq_iff_eq,ge_iff_le,gt_iff_lt] at hg');(try simp only [hg])))))<;>(try simp (disch:=omega) only [go_sem,aa])<;>(repeat' with_reducible refine And.intro ?_ ?_)<;>(try (with_reducible refine hK _ ?_;clear hK K)))
|omega)
  refine ⟨k+1,by omega,by omega,?_⟩
  rw [hs]
  simp only [lE,q1,q2,List.append_nil]
  exact zFr [0,1,2] trivial
 have hrw:∀ z,List.getD (List.map AWatch.row ws) i z=(ws.getD i default).row:=fun z=>AWatch.rgetD ws i z hi3
 by_cases hh:qu e (ws.getD i default)=true
 case neg=>
  have ht:=(lm (ws.getD i default) e).re (congrArg B (eq_false_of_ne_true hh))
  (refine zW qw (z2 (ic Tryz.func240) ht) (zx @hrw @AWatch.row.eq_1) (z1 ?_)<;>(repeat with_reducible intro hc))
  refine ⟨i+1,⟨by omega,fun j hj=>?_⟩,by omega,?_⟩
  ·by_cases ej:j=i
   ·subst ej;exact eq_false_of_ne_true hh
   ·exact hi2 j (by omega)
  exact zFr [0,1,2,3] trivial
 have ht:=(lm (ws.getD i default) e).re (congrArg B hh)
 obtain ⟨q1,q2⟩:=ui e ws i hi2 hi
 have hk0:keptW e (ws.take (i+1))=ws.take i:=by rw [tL e ws i hi3,if_pos hh,q1]
 have ht0:gQ e (ws.take (i+1))=[⟨(ws.getD i default).session,e⟩]:=by rw [sS e ws i hi3,if_pos hh,q2];rfl
 have hmin:(ws.take i).length=i:=by rw [List.length_take];omega
 (repeat' first
|(with_reducible refine AR.f ?_)
|refine ap (by decide) ?_
|(with_reducible refine AWP.cond rfl ?_ ?_<;>intro hc<;>(try simp only [hcs,beq_iff_eq,ge_iff_le,gt_iff_lt] at hc))
|(refine bM fun Kk hKk=>(cm bQ Tryz.func240 rfl (by kernel_rfl) (by simp [Tryz.ntmps240]) ?_);simp only [Tryz.ntmps240,Tryz.results240,List.toList_toArray,fU,List.length_nil,List.length_cons,Nat.reduceAdd,List.length_append,List.length_set,go_sem])
|((first|((first|(with_reducible first|refine zR ?_|refine zQ (by decide +kernel) ?_|refine zD (by decide +kernel) ?_|refine zE (by decide +kernel) ?_|refine zG (by decide +kernel) ?_));intro K hK)|((first|refine zA ht ?_ ?_ ?_ ?_ ?_);(focus exact rfl);(focus exact rfl);iterate 2 (focus ((try simp (disch:=omega) only [go_sem,aa,hrw,AWatch.row])<;>(try omega)<;>fail)))|((first|refine zX ht rfl ?_ ?_);(focus ((try simp (disch:=omega) only [go_sem,aa,hrw,AWatch.row])<;>(try omega)<;>fail)))|(refine aend_in (v:=?_) hKk (by first|exact .inl rfl|exact .inr rfl) ?_ ?_ ?_;rotate_left;(focus ((try simp (disch:=omega) only [go_sem,aa,hrw,AWatch.row])<;>(try omega)<;>fail));(focus ((try simp (disch:=omega) only [go_sem,aa,hrw,AWatch.row])<;>(first|done|exact rfl)));clear hKk Kk)|((first|(with_reducible refine aunder_i ?_ ?_<;>intro hg)|with_reducible intro hg)<;>(first|(exfalso;simp at hg;done)|(have hg':=hg;(try simp only [hcs,beq_iff_eq,ge_iff_le,gt_iff_lt] at hg');(try simp only [hg])))))<;>(try simp (disch:=omega) only [go_sem,aa,hrw,AWatch.row])<;>(repeat' with_reducible refine And.intro ?_ ?_)<;>(try (with_reducible refine hK _ ?_;clear hK K)))
|omega)
 refine AWP.loopB (ι:=Nat×List AWatch) (fun v=>i<v.1∧v.1≤ws.length∧v.2.length=ws.length∧v.2.take (keptW e (ws.take v.1)).length=keptW e (ws.take v.1)∧v.2.drop v.1=ws.drop v.1∧(keptW e (ws.take v.1)).length<v.1) (fun v=>ws.length-v.1) [0,1] (fun v=>[(5,I (keptW e (ws.take v.1)).length),(6,I v.1)]) (fun v=>[.rows 3 (v.2.map AWatch.row),.cells [.osl 4 3 0 (ns++gQ e (ws.take v.1)).length],.dead,.cells [I e.kind,S e.path],.rows 3 ((ns++gQ e (ws.take v.1)).map ANote.row)]) (i+1,ws) ?_ ?_ ?_
 ·simp only [hk0,hmin]
  exact ⟨by omega,by omega,trivial,trivial,trivial,by omega⟩
 ·simp only [go_sem,hk0,ht0,hmin];exact zFr [0,1,2,3,6] (zx @ANote.row.eq_1 (zx @List.map_append.{0,0} (zx @List.map_cons.{0,0} @List.map_nil.{0,0})))
 intro ⟨j,R⟩ ⟨j1,j2,r1,r2,r3,r4⟩
 simp only at j1 j2 r1 r2 r3 r4
 simp only [go_sem]
 by_cases hj3:j<ws.length
 ·have hRj:∀ z,List.getD (List.map AWatch.row R) j z=(ws.getD j default).row:=fun z=>by
   rw [AWatch.rgetD R j z (by omega)]
   have:(R.drop j).getD 0 default=(ws.drop j).getD 0 default:=by rw [r3]
   rw [List.getD_eq_getElem?_getD,List.getD_eq_getElem?_getD,List.getElem?_drop,List.getElem?_drop,Nat.add_zero] at this
   rw [List.getD_eq_getElem?_getD,List.getD_eq_getElem?_getD,this]
  have hks:=tL e ws j hj3
  have hts:=sS e ws j hj3
  have hkl:=tG e (ws.take j)
  have htn:List.take (ns.length+(gQ e (ws.take j)).length) (List.map ANote.row (ns++gQ e (ws.take j)))=List.map ANote.row (ns++gQ e (ws.take j)):=List.take_of_length_le (by simp)
  rw [List.length_take] at hkl
  by_cases hh2:qu e (ws.getD j default)=true
  ·have ht2:=(lm (ws.getD j default) e).re (congrArg B hh2)
   rw [if_pos hh2] at hks hts
   (refine zW qw (z2 (ic Tryz.func240) ht2) (zx @hRj (zx @AWatch.row.eq_1 (zx @r1 @htn))) (z1 ?_)<;>(repeat with_reducible intro hc))
   refine ⟨(j+1,R),⟨by omega,by omega,r1,by simp only [hks];exact r2,?_,by simp only [hks];omega⟩,by simp only;omega,?_⟩
   ·simp only;rw [←List.drop_drop,←List.drop_drop,r3]
   simp only [hks,hts]
   exact zFr [0,1,2,3,8] (zx @ANote.row.eq_1 (zx @List.map_append.{0,0} (zx @List.map_cons.{0,0} (zx @List.map_nil.{0,0} (zx @List.append_assoc.{0} @Nat.add_assoc)))))
  have ht2:=(lm (ws.getD j default) e).re (congrArg B (eq_false_of_ne_true hh2))
  rw [if_neg hh2] at hks hts
  have hcl:(keptW e (ws.take j)).length<R.length:=by omega
  (refine zW qw (z2 (ic Tryz.func240) ht2) (zx @hRj (zx @AWatch.row.eq_1 @r1)) (z1 ?_)<;>(repeat with_reducible intro hc))
  refine ⟨(j+1,R.set (keptW e (ws.take j)).length (ws.getD j default)),⟨by omega,by omega,by simp only [List.length_set];exact r1,?_,?_,by simp only [hks,List.length_append,List.length_singleton];omega⟩,by simp only;omega,?_⟩
  ·simp only [hks,List.length_append,List.length_singleton]
   rw [Ae _ _ default (by rw [List.length_set];exact hcl),List.take_set_of_le (Nat.le_refl _),r2]
   congr 1
   rw [List.getD_eq_getElem?_getD,List.getElem?_set_self hcl];rfl
  ·simp only
   rw [List.drop_set_of_lt (by omega),←List.drop_drop,←List.drop_drop,r3]
  simp only [hks,hts]
  exact zFr [0,1,2,3,4] (zx @AWatch.row.eq_1 (zx @List.map_set.{0,0} @List.length_append.{0}))
 have hje:j=ws.length:=by omega
 subst hje
 rw [List.take_length] at r2 r4 ⊢
 (repeat' first
|(with_reducible refine AR.f ?_)
|refine ap (by decide) ?_
|(with_reducible refine AWP.cond rfl ?_ ?_<;>intro hc<;>(try simp only [hcs,beq_iff_eq,ge_iff_le,gt_iff_lt] at hc))
|(refine bM fun Kk hKk=>(cm bQ Tryz.func240 rfl (by kernel_rfl) (by simp [Tryz.ntmps240]) ?_);simp only [Tryz.ntmps240,Tryz.results240,List.toList_toArray,fU,List.length_nil,List.length_cons,Nat.reduceAdd,List.length_append,List.length_set,go_sem])
|((first|((first|(with_reducible first|refine zR ?_|refine zQ (by decide +kernel) ?_|refine zD (by decide +kernel) ?_|refine zE (by decide +kernel) ?_|refine zG (by decide +kernel) ?_));intro K hK)|(refine aend_in (v:=?_) hKk (by first|exact .inl rfl|exact .inr rfl) ?_ ?_ ?_;rotate_left;(focus ((try simp (disch:=omega) only [go_sem,aa,r1,r4])<;>(try omega)<;>fail));(focus ((try simp (disch:=omega) only [go_sem,aa,r1,r4])<;>(first|done|exact rfl)));clear hKk Kk)|((first|(with_reducible refine aunder_i ?_ ?_<;>intro hg)|with_reducible intro hg)<;>(first|(exfalso;simp at hg;done)|(have hg':=hg;(try simp only [hcs,beq_iff_eq,ge_iff_le,gt_iff_lt] at hg');(try simp only [hg])))))<;>(try simp (disch:=omega) only [go_sem,aa,r1,r4])<;>(repeat' with_reducible refine And.intro ?_ ?_)<;>(try (with_reducible refine hK _ ?_;clear hK K)))
|omega)
 have htk:∀ X:List (List DV),List.take (keptW e ws).length (List.take (keptW e ws).length (List.map AWatch.row R)++X)=List.map AWatch.row (keptW e ws):=fun X=>by
  rw [List.take_append_of_le_length (by rw [List.length_take,List.length_map];omega),List.take_take,Nat.min_self,←List.map_take,r2]
 refine ⟨k+1,by omega,by omega,aM.trans (aM.tail 0 (keptW e ws).length rfl) ?_⟩
 rw [hs]
 simp only [lE,List.append_assoc]
 exact zFr [0,1,4] @htk
theorem mj (k n:Nat):(byteAt k (n:Int)).toNat=n/256^k%256:=by
 unfold byteAt
 rw [Li]
 have e:((n:Int)/((256^k:Nat):Int)%256).toNat=n/256^k%256:=by
  rw [←Int.natCast_ediv,show (256:Int)=((256:Nat):Int) from rfl,←Int.natCast_emod,Int.toNat_natCast]
 rw [e,UInt8.toNat_ofNat',Nat.mod_mod]
theorem wP (n:Nat):∀ k,numN (beB k (n:Int))=n%256^k
 |0=>by rw [Nat.pow_zero,Nat.mod_one];rfl
 | k+1=>by
   rw [beB,nM,beB_len,wP n k,mj,Nat.pow_succ,Nat.mod_mul,Nat.mul_comm (256^k),Nat.add_comm]
theorem eQ {n k:Nat} (h:n<256^k):numN (beB k (n:Int))=n:=by rw [wP,Nat.mod_eq_of_lt h]
theorem DX {z:Int} (h0:0≤z) (h:z<9223372036854775808):lx (beB 8 z)=z:=by
 obtain ⟨n,rfl⟩:=Int.eq_ofNat_of_zero_le h0
 obtain ⟨k,hk⟩:=Fd (beB 8 (n:Int))
 rw [eQ (by omega)] at hk
 have:=HB (beB 8 (n:Int))
 unfold okI at this
 omega
theorem eX {t:ATxn} (h:aN t=0):(0≤t.zxid∧t.zxid<9223372036854775808)∧(1≤t.op∧t.op≤5)∧(1≤t.session∧t.session≤2147483647)∧(0≤t.version∧t.version≤2147483647)∧(0≤t.owner∧t.owner≤2147483647)∧t.path.length≤200∧t.data.length≤256:=by
 obtain ⟨a,b⟩:=ij h
 unfold aN at h
 split at h
 ·cases h
 split at h
 ·cases h
 rename_i h1 h2
 have h3:=(kY t).1 (by simpa using h2)
 have hz:=h3.1
 unfold bR at hz
 exact ⟨by omega,by omega,h3.2.1,h3.2.2.1,h3.2.2.2,a,b⟩
theorem mid {A B C s:List UInt8} (h:s=A++(B++C)) {n m:Nat} (hn:A.length=n) (hm:B.length=m):(s.drop n).take m=B:=by
 rw [h,List.drop_left' hn,List.take_left' hm]
theorem at1 {A C s:List UInt8} {x:UInt8} (h:s=A++(x::C)) {n:Nat} (hn:A.length=n):s.getD n 0=x:=by
 rw [h,List.getD_eq_getElem?_getD,List.getElem?_append_right (by omega),hn,Nat.sub_self];rfl
theorem JI {z:Int} (h0:0≤z) (h:z<256):((byteAt 0 z).toNat:Int)=z:=by
 obtain ⟨n,rfl⟩:=Int.eq_ofNat_of_zero_le h0
 rw [mj,Nat.pow_zero,Nat.div_one,Nat.mod_eq_of_lt (by omega)]
theorem vr {z:Int} {k:Nat} (h0:0≤z) (h:z<((256^k:Nat):Int)):((numN (beB k z):Nat):Int)=z:=by
 obtain ⟨n,rfl⟩:=Int.eq_ofNat_of_zero_le h0
 rw [eQ (by omega)]
theorem Ai {t:ATxn} (h:aN t=0):(cH t).1=oA t:=by unfold cH;rw [if_pos h]
theorem lk {t:ATxn} (h:aN t=0):(cH t).1.length=31+t.path.length+t.data.length:=by
 rw [Ai h,oA,List.length_append,iJ,beB_len];omega
theorem HP {t:ATxn} (h:aN t=0) (more:List UInt8):cq ((cH t).1++more)=(t,(((cH t).1.length:Nat):Int),0):=by
 obtain ⟨⟨z0,z1⟩,⟨p0,p1⟩,⟨s0,s1⟩,⟨v0,v1⟩,⟨o0,o1⟩,lp,ld⟩:=eX h
 rw [lk h,Ai h]
 have hb:=en t
 have hh:=iJ t
 -- the record's parts
 have e0:oA t++more=84::(beB 2 ((bu t).length:Int)++(bu t++(beB 4 (mR (dF t))++more))):=by
  unfold oA dF;simp only [List.append_assoc,List.cons_append,List.nil_append]
 have e1:oA t++more=dF t++(beB 4 (mR (dF t))++more):=by unfold oA;rw [List.append_assoc]
 generalize hs:oA t++more=s at e0 e1 ⊢
 have hsl:s.length=31+t.path.length+t.data.length+more.length:=by
  rw [e1];simp only [List.length_append,hh,beB_len];omega
 have hN:sN s=(bu t).length:=by
  unfold sN
  rw [mid (n:=1) (m:=2) (A:=[84]) (B:=beB 2 ((bu t).length:Int)) e0 rfl (beB_len _ _),eQ (by omega)]
 have h1:¬ dA s:=by
  unfold dA;rw [e0];rintro (h|h)
  ·rw [←e0] at h;omega
  ·exact h rfl
 have h2:¬ dV s:=by unfold dV;rw [hN];omega
 have hsum:=Kp (dF t)
 have h3:¬ gO s:=by
  unfold gO
  rw [hN,mid (A:=dF t) (B:=beB 4 (mR (dF t))) (C:=more) e1 (by omega) (beB_len _ _),eQ (by omega),e1,List.take_left' (by omega)]
  exact fun h=>h rfl
 have hB:sB s=bu t:=by
  unfold sB
  rw [hN]
  exact mid (A:=[84]++beB 2 ((bu t).length:Int)) (C:=beB 4 (mR (dF t))++more) (by rw [e0];simp only [List.append_assoc,List.cons_append,List.nil_append]) (by rw [List.length_append,beB_len];rfl) rfl
 have hbt:eu (bu t)∧eS (bu t)=t:=by
  have b1:bu t=b6 t++(byteAt 0 t.path.length::(t.path++(beB 2 t.data.length++t.data))):=by unfold bu b7;simp only [List.append_assoc,List.cons_append,List.nil_append]
  have b2:bu t=b7 t++(beB 2 t.data.length++t.data):=by unfold bu;simp only [List.append_assoc]
  have b3:bu t=beB 8 t.zxid++(byteAt 0 t.op::(beB 4 t.session++(beB 4 t.version++(beB 4 t.owner++(byteAt 0 t.path.length::(t.path++(beB 2 t.data.length++t.data))))))):=by
   unfold bu b7 b6 b5;simp only [List.append_assoc,List.cons_append,List.nil_append]
  have b4:bu t=(beB 8 t.zxid++[byteAt 0 t.op])++(beB 4 t.session++(beB 4 t.version++(beB 4 t.owner++(byteAt 0 t.path.length::(t.path++(beB 2 t.data.length++t.data)))))):=by
   rw [b3];simp only [List.append_assoc,List.cons_append,List.nil_append]
  have b5':bu t=b5 t++(beB 4 t.version++(beB 4 t.owner++(byteAt 0 t.path.length::(t.path++(beB 2 t.data.length++t.data))))):=by
   unfold bu b7 b6;simp only [List.append_assoc,List.cons_append,List.nil_append]
  have b6':bu t=(b5 t++beB 4 t.version)++(beB 4 t.owner++(byteAt 0 t.path.length::(t.path++(beB 2 t.data.length++t.data)))):=by
   rw [b5'];simp only [List.append_assoc]
  have b7':bu t=(b6 t++[byteAt 0 t.path.length])++(t.path++(beB 2 t.data.length++t.data)):=by
   rw [b1];simp only [List.append_assoc,List.cons_append,List.nil_append]
  have b8:bu t=(b7 t++beB 2 t.data.length)++t.data:=rfl
  have hP:bP (bu t)=t.path.length:=by
   unfold bP;rw [at1 b1 (oE t),mj,Nat.pow_zero,Nat.div_one,Nat.mod_eq_of_lt (by omega)]
  have hD:bD (bu t)=t.data.length:=by
   unfold bD;rw [hP,mid b2 (b7_len t) (beB_len _ _),eQ (by omega)]
  refine ⟨by unfold eu;rw [hP,hD];omega,?_⟩
  unfold eS
  rw [hP,show (bu t).take 8=beB 8 t.zxid from by rw [b3,List.take_left' (beB_len _ _)],DX z0 z1,at1 b3 (beB_len _ _),JI (by omega) (by omega),
   mid b4 (by rw [List.length_append,beB_len];rfl) (beB_len _ _),vr (by omega) (by omega),mid b5' (mu t) (beB_len _ _),vr v0 (by omega),
   mid b6' (by rw [List.length_append,mu,beB_len]) (beB_len _ _),vr o0 (by omega),mid b7' (by rw [List.length_append,oE];rfl) rfl,
   show (bu t).drop (24+t.path.length)=t.data from by rw [b8,List.drop_left' (by rw [List.length_append,b7_len,beB_len];omega)]]
 rw [vu h1 h2 h3 (by rw [hB];exact hbt.1) (by rw [hB,hbt.2];exact h),hB,hbt.2,hN]
 congr 2
 omega
theorem It {t:ATxn} (h:aN t=0) {m:Nat} (hm:m<(cH t).1.length):(cq ((cH t).1.take m)).2.2≠0:=by
 intro hz
 obtain ⟨h1,h2,_⟩:=vO hz
 unfold dA at h1
 unfold dV at h2
 have hb:=en t
 rw [lk h] at hm
 have hl:((cH t).1.take m).length=m:=by rw [List.length_take,lk h];omega
 have hm3:3≤m:=by omega
 have hN:sN ((cH t).1.take m)=(bu t).length:=by
  unfold sN
  rw [List.drop_take,List.take_take,Nat.min_eq_left (by omega),Ai h]
  have e0:oA t=[84]++(beB 2 ((bu t).length:Int)++(bu t++beB 4 (mR (dF t)))):=by unfold oA dF;simp only [List.append_assoc]
  obtain ⟨_,_,_,_,_,lp,ld⟩:=eX h
  rw [mid (n:=1) (m:=2) e0 rfl (beB_len _ _),eQ (by omega)]
 rw [hN] at h2
 omega
theorem dJ (t:ATxn) (l:List ATxn):encs (t::l)=(cH t).1++encs l:=by unfold encs;simp
theorem vR (a b:List ATxn):encs (a++b)=encs a++encs b:=by unfold encs;simp
theorem A5:(cq []).2.2≠0:=by decide
theorem xT {t:ATxn} {l:List ATxn} (h:logOk (t::l)):logOk l:=by
 refine ⟨fun k hk=>?_,fun x hx=>h.2 x (List.mem_cons_of_mem _ hx)⟩
 have:=h.1 (k+1) (by simpa using hk)
 simpa using this
theorem yy {s:List UInt8} {f at_:Nat} {l:List ATxn} {t:ATxn} {more:List UInt8} (ht:aN t=0) (hz:0<l.length→az l<t.zxid) (hd:s.drop at_=(cH t).1++more) :
  fk s (f+1) at_ l=fk s f (at_+(cH t).1.length) (l++[t]):=by
 have e:=HP ht more
 rw [jI (n:=(cH t).1.length) (by rw [hd,e]) (by rw [hd,e];rintro ⟨h0,h1⟩;have:=hz h0;simp only at h1;omega) (by rw [hd,e]),hd,e]
theorem tl (s:List UInt8):∀ (r:List ATxn) (f at_:Nat) (l:List ATxn) (rest:List UInt8),logOk r→(0<l.length→0<r.length→az l<(r.getD 0 default).zxid)→s.drop at_=encs r++rest→(cq rest).2.2≠0→r.length<f→
  fk s f at_ l=(l++r,at_+(encs r).length)
 | [],f,at_,l,rest,_,_,hd,hr,hf=>by
   obtain ⟨f,rfl⟩:∃ g,f=g+1:=⟨f-1,by simp at hf;omega⟩
   rw [fe,List.nil_append] at hd
   rw [gG (.inl (by rw [hd];exact hr)),List.append_nil,fe];rfl
 | t :: r,f,at_,l,rest,ho,hz,hd,hr,hf=>by
   obtain ⟨f,rfl⟩:∃ g,f=g+1:=⟨f-1,by simp at hf;omega⟩
   rw [dJ,List.append_assoc] at hd
   rw [yy (ho.2 t (List.mem_cons_self ..)) (fun h0=>hz h0 (by simp)) hd]
   rw [tl s r f _ (l++[t]) rest (xT ho) (fun _ h1=>?_) (by rw [←List.drop_drop,hd,List.drop_left' rfl]) hr (by simp at hf;omega),dJ,List.length_append,List.append_assoc,Nat.add_assoc]
   ·rfl
   ·rw [fw]
    have:=ho.1 0 (by simp;omega)
    simpa using this
theorem Jk {t:ATxn} (h:aN t=0):31≤(cH t).1.length:=by rw [lk h];omega
theorem HO {l:List ATxn} (h:∀ t,t∈l→aN t=0):l.length*31≤(encs l).length:=by
 induction l with
 |nil=>exact Nat.zero_le _
 | cons t l ih=>
   have h1:=Jk (h t (List.mem_cons_self ..))
   have h2:=ih fun x hx=>h x (List.mem_cons_of_mem _ hx)
   rw [dJ,List.length_append,List.length_cons];omega
theorem vT {l:List ATxn} (h:logOk l) {rest:List UInt8} (hr:(cq rest).2.2≠0):scanT (encs l++rest)=(l,(encs l).length):=by
 have hl:=HO h.2
 unfold scanT
 rw [tl _ l _ 0 [] rest h (fun h0=>absurd h0 (by decide)) rfl hr (by rw [List.length_append];omega),List.nil_append,Nat.zero_add]
theorem mw {l:List ATxn} (h:logOk l) (k:Nat):logOk (l.take k):=by
 refine ⟨fun j hj=>?_,fun x hx=>h.2 x (List.mem_of_mem_take hx)⟩
 rw [List.length_take] at hj
 have g:∀ i,i<k→(l.take k).getD i default=l.getD i default:=fun i hi=>by
  rw [List.getD_eq_getElem?_getD,List.getElem?_take,if_pos hi,List.getD_eq_getElem?_getD]
 rw [g j (by omega),g (j+1) (by omega)]
 exact h.1 j (by omega)
theorem xO:∀ (l:List ATxn) (m:Nat),(∀ t,t∈l→aN t=0)→∃ k rest,k≤l.length∧(encs l).take m=encs (l.take k)++rest∧(cq rest).2.2≠0∧(∀ a,a≤l.length→(encs (l.take a)).length≤m→a≤k)
 |[],m,_=>⟨0,[],Nat.le_refl _,by rw [fe,List.take_nil];rfl,A5,fun a ha _=>ha⟩
 | t :: l,m,hg=>by
   have ht:=hg t (List.mem_cons_self ..)
   by_cases hm:m<(cH t).1.length
   ·refine ⟨0,(cH t).1.take m,Nat.zero_le _,?_,It ht hm,fun a ha hl=>?_⟩
    ·rw [dJ,List.take_append_of_le_length (by omega),List.take_zero,fe,List.nil_append]
    ·rcases a with _|a
     ·exact Nat.le_refl _
     ·rw [List.take_succ_cons,dJ,List.length_append] at hl;omega
   ·obtain ⟨k,rest,h1,h2,h3,h4⟩:=xO l (m-(cH t).1.length) fun x hx=>hg x (List.mem_cons_of_mem _ hx)
    refine ⟨k+1,rest,by simp;omega,?_,h3,fun a ha hl=>?_⟩
    ·rw [dJ,List.take_append,List.take_of_length_le (by omega),h2,List.take_succ_cons,dJ,List.append_assoc]
    ·rcases a with _|a
     ·exact Nat.zero_le _
     ·rw [List.take_succ_cons,dJ,List.length_append] at hl
      have:=h4 a (by simpa using ha) (by omega)
      omega
theorem Ge {l:List ATxn} (h:logOk l) (m:Nat):∃ k,k≤l.length∧scanT ((encs l).take m)=(l.take k,(encs (l.take k)).length)∧(∀ a,a≤l.length→(encs (l.take a)).length≤m→a≤k):=by
 obtain ⟨k,rest,h1,h2,h3,h4⟩:=xO l m h.2
 exact ⟨k,h1,by rw [h2,vT (mw h k) h3],h4⟩
def epN:List UInt8:=[101,112,111,99,104]
def mkD (e:Option (List UInt8)) (s t:List UInt8):List AFile:=
 match e with
 |none=>[⟨logN,s,t⟩]
 |some x=>[⟨epN,x,[]⟩,⟨logN,s,t⟩]
def okD (e:Option (List UInt8)) (s t:List UInt8):Prop:=(∀ x,e=some x→x.length≤1048576)∧s.length+t.length≤1048576
theorem rB:a8 epN=true:=by decide
theorem GB:epN<logN:=by decide
theorem fb {e:Option (List UInt8)} {s t:List UInt8} (h:okD e s t):bF (mkD e s t)=true:=by
 rw [gr]
 obtain ⟨h1,h2⟩:=h
 cases e with
 | none=>
   refine ⟨by show 1≤16;decide,fun k hk=>?_⟩
   have hk0:k=0:=by have:k<1:=hk;omega
   subst hk0
   exact ⟨⟨fq,h2⟩,fun h=>absurd h (by decide)⟩
 | some x=>
   have h3:=h1 x rfl
   refine ⟨by show 2≤16;decide,fun k hk=>?_⟩
   have hk0:k=0∨k=1:=by have:k<2:=hk;omega
   rcases hk0 with rfl|rfl
   ·exact ⟨⟨rB,by show x.length+0≤_;omega⟩,fun h=>absurd h (by decide)⟩
   ·exact ⟨⟨fq,h2⟩,fun _=>GB⟩
theorem qS:place [logN] logN=0:=by decide
theorem qi:place [epN,logN] logN=1:=by decide
theorem BC:place [logN] epN=0:=by decide
theorem nN:place [epN,logN] epN=0:=by decide
theorem gx (s t:List UInt8):(mkD none s t).map AFile.name=[logN]:=rfl
theorem iP (x s t:List UInt8):(mkD (some x) s t).map AFile.name=[epN,logN]:=rfl
theorem yW (e:Option (List UInt8)) (s t:List UInt8):logN∈(mkD e s t).map AFile.name:=by
 cases e with
 |none=>rw [gx];exact List.mem_singleton.2 rfl
 |some x=>rw [iP];simp
theorem vg (e:Option (List UInt8)) (s t:List UInt8):(mkD e s t).getD (place ((mkD e s t).map AFile.name) logN) default=⟨logN,s,t⟩:=by
 cases e with
 |none=>rw [gx,qS];rfl
 |some x=>rw [iP,qi];rfl
theorem vn (e:Option (List UInt8)) (s t s2 t2:List UInt8):(mkD e s t).set (place ((mkD e s t).map AFile.name) logN) ⟨logN,s2,t2⟩=mkD e s2 t2:=by
 cases e with
 |none=>rw [gx,qS];rfl
 |some x=>rw [iP,qi];rfl
theorem D3 {e:Option (List UInt8)} {s t:List UInt8} (h:okD e s t):readD (mkD e s t) logN=(s++t,0):=by
 unfold readD
 rw [if_neg (by rw [fb h];decide),if_pos (yW e s t),vg]
theorem GO {x s t:List UInt8} (h:okD (some x) s t):readD (mkD (some x) s t) epN=(x,0):=by
 unfold readD
 rw [if_neg (by rw [fb h];decide),iP,if_pos (by simp),nN]
 show (x++[],(0:Int))=_
 rw [List.append_nil]
theorem Ga {s t:List UInt8} (h:okD none s t):readD (mkD none s t) epN=([],7):=by
 unfold readD
 rw [if_neg (by rw [fb h];decide),gx,if_neg (by decide)]
theorem Dx {e:Option (List UInt8)} {s t x:List UInt8} (h:okD e s t) (hx:s.length+t.length+x.length≤1048576):aP (mkD e s t) logN x=(⟨mkD e s (t++x)⟩,0):=by
 unfold aP
 rw [if_neg (by rw [fb h];decide),if_neg (by rw [fq];decide),if_pos (yW e s t),vg]
 simp only
 rw [if_neg (by omega),vn]
theorem x8 {e:Option (List UInt8)} {s t:List UInt8} (h:okD e s t) (F:AFile→AFile×Int) {s2 t2:List UInt8} (hF:F ⟨logN,s,t⟩=(⟨logN,s2,t2⟩,0)):bj (mkD e s t) logN F=(⟨mkD e s2 t2⟩,0):=by
 rw [gw (fb h) (yW e s t) (by rw [vg,hF]),vg,hF,vn]
theorem C0 {e:Option (List UInt8)} {s t:List UInt8} (h:okD e s t) {x:ATxn} (hx:aN x=0) (hl:s.length+t.length+(cH x).1.length≤1048576) (safe:Bool) :
  cZ (mkD e s t) x safe=(⟨if safe then mkD e (s++(t++(cH x).1)) [] else mkD e s (t++(cH x).1)⟩,0):=by
 unfold cZ
 rw [if_neg (by rw [hx];decide),Dx h hl]
 cases safe with
 |false=>rw [if_pos (.inr rfl)];rfl
 | true=>
   rw [if_neg (by simp)]
   have h2:okD e s (t++(cH x).1):=⟨h.1,by rw [List.length_append];omega⟩
   exact x8 h2 mF rfl
theorem FD {e:Option (List UInt8)} {s t:List UInt8} (h:okD e s t) {keep:Int} (hk:0≤keep):fy (mkD e s t) keep=(⟨mkD e (s++t.take keep.toNat) []⟩,0):=by
 unfold fy
 rw [if_neg (by rw [fb h];simp;omega)]
 cases e with
 |none=>rfl
 |some x=>show ((⟨[⟨epN,x++List.take keep.toNat [],[]⟩,_]⟩:ADisk),(0:Int))=_;rw [List.take_nil,List.append_nil];rfl
theorem jC {e:Option (List UInt8)} {s t:List UInt8} (h:okD e s t):recoverD (mkD e s t)=((scanT (s++t)).1,⟨mkD e (encs (scanT (s++t)).1) []⟩,0):=by
 have hr:=D3 h
 rw [JN (by rw [hr];exact (by decide:¬ (0:Int)=7)) (by rw [hr]),mW (by rw [hr]),hr,vn]
theorem z8 (s:List UInt8):(encs (scanT s).1).length≤s.length:=by
 obtain ⟨_,h2,h3⟩:=mS s
 rw [h2,List.length_take];omega
theorem Iz {e:Option (List UInt8)} {s t:List UInt8} (h:okD e s t) (z:Int):keepD (mkD e s t) z=(⟨mkD e (encs (keepL (scanT (s++t)).1 z)) []⟩,0):=by
 rw [qY (by rw [jC h]),jC h,vn]
theorem yr {x s t:List UInt8} (h:okD (some x) s t):bv (mkD (some x) s t) epN=(⟨mkD none s t⟩,0):=by
 unfold bv
 rw [if_neg (by rw [fb h];decide),iP,if_pos (by simp),nN];rfl
theorem yJ {s t:List UInt8} (h:okD none s t):bv (mkD none s t) epN=(default,7):=by
 unfold bv
 rw [if_neg (by rw [fb h];decide),gx,if_neg (by decide)]
theorem EP {s t y:List UInt8} (h:okD none s t) (hy:y.length≤1048576):aP (mkD none s t) epN y=(⟨[⟨epN,[],y⟩,⟨logN,s,t⟩]⟩,0):=by
 unfold aP
 rw [if_neg (by rw [fb h];decide),if_neg (by rw [rB];decide),gx,if_neg (by decide),if_neg (by show ¬ 16≤1;decide),if_neg (by omega),BC];rfl
theorem IU {s t y:List UInt8} (h:okD none s t) (hy:y.length≤1048576):bj [⟨epN,[],y⟩,⟨logN,s,t⟩] epN mF=(⟨mkD (some y) s t⟩,0):=by
 have hg:bF [⟨epN,[],y⟩,⟨logN,s,t⟩]=true:=by
  rw [gr]
  refine ⟨by show 2≤16;decide,fun k hk=>?_⟩
  have hk0:k=0∨k=1:=by have:k<2:=hk;omega
  rcases hk0 with rfl|rfl
  ·exact ⟨⟨rB,by show 0+y.length≤_;omega⟩,fun h=>absurd h (by decide)⟩
  ·exact ⟨⟨fq,h.2⟩,fun _=>GB⟩
 have hn:([⟨epN,[],y⟩,⟨logN,s,t⟩]:List AFile).map AFile.name=[epN,logN]:=rfl
 rw [gw hg (by rw [hn];simp) rfl,hn,nN];rfl
def mb (a b:APeer):Bool:=decide (az b.log<az a.log)||(decide (az a.log=az b.log)&&decide (b.id<a.id))
def dC (p:APeer):Int×Int:=if epZ (az p.log)<p.epoch then (if (mkZ p.epoch 0).2≠0 then (0,(mkZ p.epoch 0).2) else lz (mkZ p.epoch 0).1) else lz (az p.log)
def jB (p:APeer):Bool:=decide (p.id<0)||decide (3≤p.id)||decide (p.epoch<0)||decide (2147483647<p.epoch)
def pV (l:List APeer) (i:Nat):Bool:=(l.take i).any fun q=>decide (q.id=(l.getD i default).id)
def ia (l:List APeer) (i:Nat):Int:=if pV l i then 8 else if jB (l.getD i default) then 3 else 0
def bn (l:List APeer):Nat→Int
 |0=>0
 |n+1=>if bn l n=0 then ia l n else bn l n
def mx (a b:Int):Int:=if a<b then b else a
def cB (l:List APeer):Nat→Nat×Int
 |0=>(0,0)
 |n+1=>(if mb (l.getD n default) (l.getD (cB l n).1 default) then n else (cB l n).1,mx (mx (cB l n).2 (l.getD n default).epoch) (epZ (az (l.getD n default).log)))
def bT (l:List APeer):Int×Int×Int:=
 if bn l l.length=0 then
  if l.length<2 then (0,0,14) else if 2147483647≤(cB l l.length).2 then (0,0,6) else (((cB l l.length).1:Int),(cB l l.length).2+1,0)
 else (0,0,bn l l.length)
def gI (c:AClient) (z:Int):AClient×Int:=if z<c.seen then (default,15) else ({ c with seen:=z },0)
def Ep (s:Int):AClient×Int:=if s<1∨2147483647<s then (default,3) else (⟨s,0,[]⟩,0)
def normE (e:AEntry):AEntry:=if e.there=true then e else ⟨e.path,[],e.there⟩
def iz (l:List AEntry) (e:AEntry):List AEntry:=
 if e.path∈l.map AEntry.path then l.set (place (l.map AEntry.path) e.path) (normE e) else l.insertIdx (place (l.map AEntry.path) e.path) (normE e)
def oZ (l:List AEntry) (key:List UInt8):List AEntry:=l.filter fun f=>decide (f.path≠key)
def jP (s:Int) (l:List AEntry) (n:ANote):List AEntry:=if n.session=s∧n.event.kind≠4 then oZ l n.event.path else l
def dZ (s:Int) (l:List AEntry) (ns:List ANote):List AEntry:=ns.foldl (jP s) l
theorem uZ (l:List AEntry) (h:l.length*40≤140737488351232):ab Tryz.prog [] 230 [.d (.sl 3 (l.map AEntry.row))] (own 3 (l.map AEntry.row)):=by
 refine zJ Tryz.func230 Tryz.ntmps230 Tryz.results230 ?_;simp only [go_sem]
 (repeat' first
|(with_reducible refine AR.f ?_)
|refine ap (by decide) ?_
|(with_reducible refine AWP.cond rfl ?_ ?_<;>intro hc<;>(try simp only [hcs,beq_iff_eq,ge_iff_le,gt_iff_lt] at hc))
|((first|((first|(with_reducible first|refine zR ?_|refine zQ (by decide +kernel) ?_|refine zD (by decide +kernel) ?_|refine zE (by decide +kernel) ?_|refine zG (by decide +kernel) ?_));intro K hK)|((first|(with_reducible refine aunder_i ?_ ?_<;>intro hg)|with_reducible intro hg)<;>(first|(exfalso;simp at hg;done)|(have hg':=hg;(try simp only [hcs,beq_iff_eq,ge_iff_le,gt_iff_lt] at hg');(try simp only [hg])))))<;>(try simp (disch:=omega) only [go_sem,aa])<;>(repeat' with_reducible refine And.intro ?_ ?_)<;>(try (with_reducible refine hK _ ?_;clear hK K)))
|omega)
 ·have e:l.length=0:=by
   rcases Nat.eq_zero_or_pos l.length with h0|h0
   ·exact h0
   ·rw [hg h0] at hc;simp at hc
  rw [fu e]
  (refine kN (by first|exact .inl rfl|exact .inr rfl) rfl ?_ ?_<;>simp (disch:=omega) only [go_sem,aa])
 ·(refine kB 1 (by first|exact .inl rfl|exact .inr rfl) rfl ?_ rfl rfl ?_<;>(try simp (disch:=omega) only [go_sem,aa,List.length_map]))
theorem mV (c:AClient) (h:c.cache.length*40≤140737488351232):ab Tryz.prog [] 178 [c.av] (cY (.agg [I c.session,I c.seen,.osl 0 3 0 c.cache.length]) [.rows 3 (c.cache.map AEntry.row)]):=by
 refine zJ Tryz.func178 Tryz.ntmps178 Tryz.results178 ?_;simp only [go_sem]
 (refine zW qw (z1 (uZ _ h)) trivial (z1 ?_)<;>(repeat with_reducible intro hc))
 (refine zO ?_ ?_;(focus ((try simp (disch:=omega) only [go_sem,aa])<;>fail));simp (disch:=omega) only [go_sem,aa];refine ag.of_simp ?_ (ag.same ⟨rfl,rfl⟩);refine zV [2] rfl rfl rfl rfl ?_ ?_<;>simp (disch:=omega) only [go_sem,aa,true_or,or_true])
theorem JK (c:AClient) (z:Int) (h:c.cache.length*40≤140737488351232):ab Tryz.prog [] 110 [c.av,I z] (ret (.tup [(gI c z).1.av,I (gI c z).2])):=by
 refine zJ Tryz.func110 Tryz.ntmps110 Tryz.results110 ?_;simp only [go_sem]
 (refine zW qw (z1 (mV c h)) trivial (z2 ?_ ?_)<;>(repeat with_reducible intro hc))
 all_goals (unfold gI)
 ·rw [if_pos hc];exact zEe dfl
 ·rw [if_neg (by omega)];exact zEe trivial
theorem Lf (s:Int):ab Tryz.prog [] 54 [I s] (ret (.tup [(Ep s).1.av,I (Ep s).2])):=by
 refine zJ Tryz.func54 Tryz.ntmps54 Tryz.results54 ?_;simp only [go_sem]
 (refine zW qw zn trivial (z2 ?_ ?_)<;>(repeat with_reducible intro hc))
 all_goals (unfold Ep)
 ·rw [if_pos (by omega)];exact zEe dfl
 ·rw [if_neg (by omega)];exact zEe trivial
theorem pF (c:AClient) (key:List UInt8) (h:c.cache.length*40≤140737488351232) (hr:aV (c.cache.map AEntry.path)) :
  ab Tryz.prog [] 180 [c.av,S key] (ret (.tup [I (place (c.cache.map AEntry.path) key),B (decide (key∈c.cache.map AEntry.path))])):=by
 refine zJ Tryz.func180 Tryz.ntmps180 Tryz.results180 ?_;simp only [go_sem]
 (refine zW qw (z1 (Dt _ key h hr)) trivial (z1 ?_)<;>(repeat with_reducible intro hc))
 exact zEe trivial
theorem vS {e:AEntry} (h:e.there=false):normE e=⟨e.path,[],e.there⟩:=by unfold normE;rw [if_neg (by simp [h])]
theorem td {e:AEntry} (h:e.there=true):normE e=⟨e.path,e.data,e.there⟩:=by unfold normE;rw [if_pos h]
theorem rL {l:List AEntry} (i:Nat) (x:AEntry) (h:i≤l.length):(l.insertIdx i x).length=l.length+1:=by rw [ev _ _ _ h];simp;omega
theorem ue (l:List AEntry) (i:Nat) (x:AEntry) (h:i≤l.length):((l.insertIdx i x).map AEntry.row).take (l.length+1)=(l.insertIdx i x).map AEntry.row:=List.take_of_length_le (by rw [List.length_map,rL _ _ h];omega)
theorem tN {l:List AEntry} {key:List UInt8}:place (l.map AEntry.path) key≤l.length:=by have:=fI (l.map AEntry.path) key;simpa using this
theorem tC {l:List AEntry} {key:List UInt8} (h:aV (l.map AEntry.path)) (h2:key∈l.map AEntry.path):place (l.map AEntry.path) key<l.length:=by
 have:=(ao h h2).1;simpa using this
theorem Jt (c:AClient) (e:AEntry) (h:c.cache.length≤100000) (hr:aV (c.cache.map AEntry.path)) :
  ab Tryz.prog [] 112 [c.av,e.av] (ret (AClient.av ⟨c.session,c.seen,iz c.cache e⟩)):=by
 have hb:c.cache.length*40≤140737488351232:=by omega
 have hpl:=tN (l:=c.cache) (key:=e.path)
 by_cases hm:e.path∈c.cache.map AEntry.path
 ·have hlt:=tC hr hm
  unfold iz;rw [if_pos hm]
  refine zJ Tryz.func112 Tryz.ntmps112 Tryz.results112 ?_;simp only [go_sem]
  (refine zW qw (z2 (mV c hb) ((pF c e.path hb hr).re (by rw [decide_eq_true hm]))) @AEntry.rset (z2 ?_ ?_)<;>(repeat with_reducible intro hc))
  ·rw [vS (by assumption)]
   exact zEe @du
  ·rw [td (by assumption)]
   exact zEe @du
 ·unfold iz;rw [if_neg hm]
  refine zJ Tryz.func112 Tryz.ntmps112 Tryz.results112 ?_;simp only [go_sem]
  (refine zW qw (z4 (mV c hb) ((pF c e.path hb hr).re (by rw [decide_eq_false hm])) (ow (qb (c.cache.map AEntry.row) [.str e.path,.str [],.bool e.there] (place (c.cache.map AEntry.path) e.path) (by simpa using hpl) (by simp only [List.length_map];omega))) (ow (qb (c.cache.map AEntry.row) [.str e.path,.str e.data,.bool e.there] (place (c.cache.map AEntry.path) e.path) (by simpa using hpl) (by simp only [List.length_map];omega)))) (zx @AEntry.rset @AEntry.rins) (z2 ?_ ?_)<;>(repeat with_reducible intro hc))
  ·rw [vS (by assumption)]
   have:=rL (l:=c.cache) (place (c.cache.map AEntry.path) e.path) ⟨e.path,[],e.there⟩ hpl
   exact zEe @ue
  ·rw [td (by assumption)]
   have:=rL (l:=c.cache) (place (c.cache.map AEntry.path) e.path) ⟨e.path,e.data,e.there⟩ hpl
   exact zEe @ue
theorem Al {l:List AEntry} {key:List UInt8} (h:¬ key∈l.map AEntry.path):oZ l key=l:=by
 unfold oZ
 rw [List.filter_eq_self]
 intro f hf
 rw [decide_eq_true_eq];intro e;exact h (List.mem_map.2 ⟨f,hf,e⟩)
theorem qO (l:List AEntry) (k:Nat):(l.map AEntry.path).getD k []=(l.getD k default).path:=fM AEntry.path l k default
theorem xC {l:List AEntry} {key:List UInt8} (hr:aV (l.map AEntry.path)) (h:key∈l.map AEntry.path):oZ l key=l.eraseIdx (place (l.map AEntry.path) key):=by
 have hp:=ao hr h
 generalize place (l.map AEntry.path) key=p at *
 have hpl:p<l.length:=by simpa using hp.1
 have hne:∀ j,j<l.length→j≠p→(l.getD j default).path≠key:=fun j hj hjp e=>by
  have e1:(l.map AEntry.path).getD j []=key:=by rw [qO];exact e
  rcases Nat.lt_or_gt_of_ne hjp with h1|h1
  ·have:=bd hr h1 (by simpa using hpl);rw [e1,hp.2] at this;exact List.lt_irrefl _ this
  ·have:=bd hr h1 (by simpa using hj);rw [e1,hp.2] at this;exact List.lt_irrefl _ this
 have hpk:(l.getD p default).path=key:=by have:=hp.2;rwa [qO] at this
 have hs:l=l.take p++l.getD p default::l.drop (p+1):=by
  rw [List.getD_eq_getElem?_getD,List.getElem?_eq_getElem hpl]
  simp
 have h1:(l.take p).filter (fun f=>decide (f.path≠key))=l.take p:=by
  rw [List.filter_eq_self]
  intro f hf
  obtain ⟨j,hj,rfl⟩:=List.mem_take_iff_getElem.1 hf
  have:=hne j (by omega) (by omega)
  rw [List.getD_eq_getElem?_getD,List.getElem?_eq_getElem (by omega)] at this
  simpa using this
 have h2:(l.drop (p+1)).filter (fun f=>decide (f.path≠key))=l.drop (p+1):=by
  rw [List.filter_eq_self]
  intro f hf
  obtain ⟨j,hj,rfl⟩:=List.mem_drop_iff_getElem.1 hf
  have:=hne (p+1+j) (by omega) (by omega)
  rw [List.getD_eq_getElem?_getD,List.getElem?_eq_getElem (by omega)] at this
  simpa using this
 rw [fG]
 unfold oZ
 conv=>lhs;rw [hs]
 rw [List.filter_append,List.filter_cons_of_neg (by simp only [hpk];simp),h1,h2]
theorem uA {l:List AEntry} {key:List UInt8} (hr:aV (l.map AEntry.path)):aV ((oZ l key).map AEntry.path):=by
 have hp:∀ l:List AEntry,aV (l.map AEntry.path)↔List.Pairwise (· < ·) (l.map AEntry.path):=fun l=>by
  constructor
  ·intro h
   rw [List.pairwise_iff_getElem]
   intro i j hi hj hij
   have:=bd h hij hj
   rwa [List.getD_eq_getElem?_getD,List.getD_eq_getElem?_getD,List.getElem?_eq_getElem hi,List.getElem?_eq_getElem hj] at this
  ·intro h k hk
   rw [List.pairwise_iff_getElem] at h
   have:=h k (k+1) (by omega) hk (by omega)
   rw [List.getD_eq_getElem?_getD,List.getD_eq_getElem?_getD,List.getElem?_eq_getElem (by omega),List.getElem?_eq_getElem hk];exact this
 rw [hp] at *
 rw [List.pairwise_map] at *
 exact hr.filter _
theorem Db (l:List AEntry) (key:List UInt8):(oZ l key).length≤l.length:=List.length_filter_le _ _
theorem Es {s:Int} {l:List AEntry} (n:ANote) (hr:aV (l.map AEntry.path)):aV ((jP s l n).map AEntry.path)∧(jP s l n).length≤l.length:=by
 unfold jP;split
 ·exact ⟨uA hr,Db _ _⟩
 ·exact ⟨hr,Nat.le_refl _⟩
theorem xw {s:Int}:∀ (ns:List ANote) {l:List AEntry},aV (l.map AEntry.path)→aV ((dZ s l ns).map AEntry.path)∧(dZ s l ns).length≤l.length
 |[],_,hr=>⟨hr,Nat.le_refl _⟩
 | n::ns,l,hr=>by
   obtain ⟨h1,h2⟩:=Es (s:=s) n hr
   obtain ⟨h3,h4⟩:=xw (s:=s) ns h1
   exact ⟨h3,Nat.le_trans h4 h2⟩
theorem jp (s:Int) (l:List AEntry) (ns:List ANote) (k:Nat) (h:k<ns.length):dZ s l (ns.take (k+1))=jP s (dZ s l (ns.take k)) (ns.getD k default):=by
 unfold dZ;rw [cD _ _ h,List.foldl_append];rfl
theorem xa {s:Int} {l:List AEntry} {n:ANote} (h:¬ (n.session=s∧n.event.kind≠4)):jP s l n=l:=by unfold jP;rw [if_neg h]
theorem sR {s:Int} {l:List AEntry} {n:ANote} (h:n.session=s∧n.event.kind≠4):jP s l n=oZ l n.event.path:=by unfold jP;rw [if_pos h]
theorem yA (s:Int) (l:List AEntry):dZ s l []=l:=rfl
theorem wB (l:List APeer) (B:Int) (hB:0≤B) (he:∀ k,k<l.length→(l.getD k default).epoch≤B∧epZ (az (l.getD k default).log)≤B):∀ n,n≤l.length→
  (∀ k,k<n→az (l.getD k default).log≤az (l.getD (cB l n).1 default).log)∧(∀ k,k<n→(l.getD k default).epoch≤(cB l n).2)∧0≤(cB l n).2∧(cB l n).2≤B∧((cB l n).1<n∨(cB l n).1=0)
 |0,_=>⟨fun k h=>absurd h (by omega),fun k h=>absurd h (by omega),Int.le_refl _,hB,.inr rfl⟩
 | n + 1,hn=>by
   obtain ⟨h1,h2,h3,h4,h5⟩:=wB l B hB he n (by omega)
   obtain ⟨e1,e2⟩:=he n (by omega)
   rw [show cB l (n+1)=(if mb (l.getD n default) (l.getD (cB l n).1 default) then n else (cB l n).1,mx (mx (cB l n).2 (l.getD n default).epoch) (epZ (az (l.getD n default).log))) from rfl]
   simp only
   generalize cB l n=q at h1 h2 h3 h4 h5 ⊢
   have hm1:q.2≤mx (mx q.2 (l.getD n default).epoch) (epZ (az (l.getD n default).log))∧(l.getD n default).epoch≤mx (mx q.2 (l.getD n default).epoch) (epZ (az (l.getD n default).log))∧mx (mx q.2 (l.getD n default).epoch) (epZ (az (l.getD n default).log))≤B:=by
    unfold mx
    repeat' split
    all_goals omega
   refine ⟨fun k hk=>?_,fun k hk=>?_,by omega,hm1.2.2,?_⟩
   ·by_cases ha:mb (l.getD n default) (l.getD q.1 default)=true
    ·rw [if_pos ha]
     by_cases e:k=n
     ·subst e;exact Int.le_refl _
     ·have:=h1 k (by omega)
      unfold mb at ha
      simp only [Bool.or_eq_true,Bool.and_eq_true,decide_eq_true_eq] at ha
      omega
    ·rw [if_neg ha]
     by_cases e:k=n
     ·subst e
      unfold mb at ha
      simp only [Bool.or_eq_true,Bool.and_eq_true,decide_eq_true_eq] at ha
      omega
     ·exact h1 k (by omega)
   ·by_cases e:k=n
    ·subst e;exact hm1.2.1
    ·have:=h2 k (by omega);omega
   ·split
    ·exact .inl (by omega)
    ·omega
theorem lA {l:List APeer} (h:∀ i,i<l.length→ia l i=0):∀ n,n≤l.length→bn l n=0
 |0,_=>rfl
 | n+1,hn=>by
   rw [bn,if_pos (lA h n (by omega))];exact h n (by omega)
theorem EC {l:List APeer} {B:Int} (hB:0≤B) (hB2:B<2147483647) (hr:List.Pairwise (fun a b:APeer=>a.id<b.id) l) (hi:∀ p,p∈l→0≤p.id∧p.id<3∧0≤p.epoch∧p.epoch≤B∧epZ (az p.log)≤B) :
  (l.length<2→bT l=(0,0,14))∧(2≤l.length→∃ (b:Nat) (ep:Int),bT l=((b:Int),ep,0)∧b<l.length∧(∀ p,p∈l→az p.log≤az (l.getD b default).log∧p.epoch<ep)∧ep≤B+1):=by
 have hin:∀ k,k<l.length→l.getD k default∈l:=fun k hk=>bU l k hk
 have herr:∀ i,i<l.length→ia l i=0:=fun i h=>by
  have ht:pV l i=false:=by
   unfold pV
   rw [List.any_eq_false]
   intro q hq
   obtain ⟨k,hk,rfl⟩:=List.getElem_of_mem hq
   rw [List.length_take] at hk
   have:=List.pairwise_iff_getElem.1 hr k i (by omega) h (by omega)
   rw [List.getElem_take,List.getD_eq_getElem?_getD,List.getElem?_eq_getElem h]
   simp only [Option.getD_some,decide_eq_true_eq]
   omega
  have hb:jB (l.getD i default)=false:=by
   have:=hi _ (hin i h)
   unfold jB
   simp only [Bool.or_eq_false_iff,decide_eq_false_iff_not]
   omega
  unfold ia;rw [ht,hb];rfl
 have h0:=lA herr l.length (Nat.le_refl _)
 obtain ⟨b1,b2,b3,b4,b5⟩:=wB l B hB (fun k hk=>by have:=hi _ (hin k hk);omega) l.length (Nat.le_refl _)
 refine ⟨fun h=>?_,fun h=>⟨(cB l l.length).1,(cB l l.length).2+1,?_,by omega,fun p hp=>?_,by omega⟩⟩
 ·unfold bT;rw [if_pos h0,if_pos h]
 ·unfold bT;rw [if_pos h0,if_neg (by omega),if_neg (by omega)]
 ·obtain ⟨k,hk,rfl⟩:=List.getElem_of_mem hp
  have e:l[k]=l.getD k default:=by rw [List.getD_eq_getElem?_getD,List.getElem?_eq_getElem hk];rfl
  rw [e]
  exact ⟨b1 k hk,by have:=b2 k hk;omega⟩
def dT (L:List (List UInt8)) (p:List UInt8):Nat:=L.countP fun q=>decide (dirP q=p)
structure PsOk (L:List (List UInt8)):Prop where
 rises:aV L
 root:[47]∈L
 len:L.length≤400
 good:∀ q,q∈L→bw q=true
 up:∀ q,q∈L→q=[47]∨dirP q∈L
structure NdOk (L:List (List UInt8)) (ss:List Int) (z C:Int) (n:ANode):Prop where
 data:n.data.length≤256
 v:0≤n.stat.version∧n.stat.version≤2147483647
 cv:0≤n.stat.cversion∧n.stat.cversion≤C
 zs:0≤n.stat.czxid∧n.stat.czxid≤n.stat.mzxid∧n.stat.czxid≤n.stat.pzxid∧n.stat.mzxid≤z∧n.stat.pzxid≤z
 own:n.stat.owner≠0→n.stat.owner∈ss∧n.stat.kids=0
 root:n.path=[47]→n.stat.owner=0
 kids:n.stat.kids=dT L n.path
theorem Dc (t:ATree) (k:Nat):rV t k=dirP (nd t k).path:=rfl
theorem vf (t:ATree) (p:List UInt8):∀ n,n≤t.nodes.length→kidsN t p n=dT ((aK t).take n) p
 |0,_=>rfl
 | n + 1,h=>by
   rw [lV,vf t p n (by omega)]
   unfold dT
   have e:(aK t).take (n+1)=(aK t).take n++[(nd t n).path]:=by
    rw [List.take_add_one,←aU,List.getD_eq_getElem?_getD]
    rw [List.getElem?_eq_getElem (by rw [aQ];omega)];rfl
   rw [e,List.countP_append,Dc]
   congr 1
   by_cases e2:dirP (nd t n).path=p
   ·rw [if_pos e2,List.countP_cons_of_pos (by simpa using e2)];rfl
   ·rw [if_neg e2,List.countP_cons_of_neg (by simpa using e2)];rfl
theorem Hc {q:List UInt8} (h:bw q=true):¬ q < [47]:=by
 have h47:∃ r,q=47::r:=by
  unfold bw at h
  rw [Bool.or_eq_true,Bool.and_eq_true,Bool.and_eq_true,decide_eq_true_eq,decide_eq_true_eq,decide_eq_true_eq] at h
  rcases h with h|h
  ·exact ⟨[],h⟩
  ·rcases q with _|⟨a,r⟩
   ·simp at h
   ·have:=h.2.1.2
    rw [List.take_succ_cons,List.take_zero] at this
    injection this with this
    exact ⟨r,by rw [this]⟩
 obtain ⟨r,rfl⟩:=h47
 intro hl
 rcases List.cons_lt_cons_iff.1 hl with h|h
 ·exact absurd h (by decide)
 ·exact absurd h.2 (List.not_lt_nil _)
theorem CF:bw []=false:=by decide
theorem FW {ns:List ANode} {n:ANode} (h:n∈ns):n.path∈pathsN ns:=List.mem_map_of_mem h
theorem kA {t:ATree} {k:Nat} (h:k<t.nodes.length):nd t k∈t.nodes:=bU t.nodes k h
theorem u9 {t:ATree} (h:aI t=true):PsOk (aK t)∧∀ n,n∈t.nodes→NdOk (aK t) t.sessions t.zxid 2147483647 n:=by
 obtain ⟨⟨a1,a2,a3,a4,a5⟩,b,c,d⟩:=bq.1 h
 have hr:=aZ h
 refine ⟨⟨hr,?_,by rw [aQ];exact a2,fun q hq=>?_,fun q hq=>?_⟩,fun n hn=>?_⟩
 ·rw [←a3];exact List.mem_map_of_mem (kA (by omega))
 ·obtain ⟨n,hn,rfl⟩:=List.mem_map.1 hq
  obtain ⟨k,hk,rfl⟩:=(bx t.nodes default n).1 hn
  exact (c k hk).1
 ·obtain ⟨n,hn,rfl⟩:=List.mem_map.1 hq
  obtain ⟨k,hk,rfl⟩:=(bx t.nodes default n).1 hn
  rcases (d k hk).2.2.1 with e|e
  ·subst e;exact .inl a3
  ·exact .inr e
 ·obtain ⟨k,hk,rfl⟩:=(bx t.nodes default n).1 hn
  obtain ⟨d1,d2,d3,d4⟩:=d k hk
  obtain ⟨s1,s2,s3,s4,s5,s6,s7,s8,s9⟩:=d1
  refine ⟨(c k hk).2.1,⟨s1,s2⟩,⟨s3,s4⟩,⟨s5,s6,s7,s8,s9⟩,d2,fun e=>?_,?_⟩
  ·by_cases e0:k=0
   ·subst e0;exact a4
   ·exfalso
    have:=bd hr (i:=0) (j:=k) (by omega) (by rw [aQ];exact hk)
    rw [aU,aU,a3] at this
    change (nd t k).path=[47] at e
    rw [e] at this
    exact List.lt_irrefl _ this
  ·show (nd t k).stat.kids=_
   rw [d4,vf t _ _ (Nat.le_refl _),List.take_of_length_le (by rw [aQ];exact Nat.le_refl _)];rfl
theorem iK {t:ATree} (hz:bR t.zxid) (hs:∀ k,k<t.sessions.length→ey t.sessions k) (hp:PsOk (aK t)) (hn:∀ n,n∈t.nodes→NdOk (aK t) t.sessions t.zxid 2147483647 n):aI t=true:=by
 have hl:=hp.len
 rw [aQ] at hl
 have hpos:1≤t.nodes.length:=by
  have:=List.length_pos_of_mem hp.root
  rw [aQ] at this;omega
 have hq:∀ k,k<t.nodes.length→(nd t k).path∈aK t:=fun k hk=>List.mem_map_of_mem (kA hk)
 have h0:(nd t 0).path=[47]:=by
  obtain ⟨k,hk,e⟩:=(bx (aK t) [] [47]).1 hp.root
  by_cases e0:k=0
  ·subst e0;rw [←aU];exact e
  ·exfalso
   have:=bd hp.rises (i:=0) (j:=k) (by omega) hk
   rw [e,aU] at this
   exact Hc (hp.good _ (hq 0 (by omega))) this
 refine bq.2 ⟨⟨hpos,hl,h0,(hn _ (kA (by omega))).root h0,hz⟩,hs,fun k hk=>⟨hp.good _ (hq k hk),(hn _ (kA hk)).data,fun hk0=>?_⟩,fun k hk=>?_⟩
 ·have:=hp.rises (k-1) (by rw [aQ];omega)
  rwa [aU,aU,Nat.sub_add_cancel hk0] at this
 ·have h:=hn _ (kA hk)
  obtain ⟨z1,z2,z3,z4,z5⟩:=h.zs
  refine ⟨⟨h.v.1,h.v.2,h.cv.1,h.cv.2,z1,z2,z3,z4,z5⟩,h.own,?_,?_⟩
  ·rcases hp.up _ (hq k hk) with e|e
   ·left
    apply Classical.byContradiction
    intro e0
    have:=bd hp.rises (i:=0) (j:=k) (by omega) (by rw [aQ];exact hk)
    rw [aU,aU,h0,e] at this
    exact List.lt_irrefl _ this
   ·exact .inr e
  ·rw [h.kids,vf t _ _ (Nat.le_refl _),List.take_of_length_le (by rw [aQ];exact Nat.le_refl _)]
theorem xK {L:List (List UInt8)} {i:Nat} (hi:i<L.length) (q:List UInt8):dT (L.eraseIdx i) q+(if dirP (L.getD i [])=q then 1 else 0)=dT L q:=by
 have e:L=L.take i++L.getD i []::L.drop (i+1):=by
  rw [List.getD_eq_getElem?_getD,List.getElem?_eq_getElem hi];simp
 unfold dT
 conv=>rhs;rw [e]
 rw [fG,List.countP_append,List.countP_append]
 by_cases h:dirP (L.getD i [])=q
 ·rw [if_pos h,List.countP_cons_of_pos (by simpa using h)];omega
 ·rw [if_neg h,List.countP_cons_of_neg (by simpa using h)];omega
theorem C1 {L:List (List UInt8)} {i:Nat} (hi:i≤L.length) (p q:List UInt8):dT (L.insertIdx i p) q=dT L q+(if dirP p=q then 1 else 0):=by
 unfold dT
 conv=>rhs;rw [←List.take_append_drop i L]
 rw [ev _ _ _ hi,List.countP_append,List.countP_append]
 by_cases h:dirP p=q
 ·rw [if_pos h,List.countP_cons_of_pos (by simpa using h)];omega
 ·rw [if_neg h,List.countP_cons_of_neg (by simpa using h)];omega
theorem rm (L:List (List UInt8)) (q:List UInt8):dT L q≤L.length:=List.countP_le_length
theorem sW {L:List (List UInt8)} {p:List UInt8} (h:p∈L):0<dT L (dirP p):=List.countP_pos_iff.2 ⟨p,h,by simp⟩
theorem eV (ns:List ANode) (i:Nat):(pathsN ns).getD i []=(ns.getD i default).path:=fM ANode.path ns i default
theorem qG {ns:List ANode} (hr:aV (pathsN ns)) {i:Nat} {n m:ANode} (hi:i<ns.length) (h:m∈ns.set i n):m=n∨(m∈ns∧m.path≠(ns.getD i default).path):=by
 obtain ⟨j,hj,rfl⟩:=List.getElem_of_mem h
 rw [List.length_set] at hj
 rw [List.getElem_set]
 split
 ·exact .inl rfl
 ·rename_i e
  refine .inr ⟨List.getElem_mem _,fun e2=>?_⟩
  have ej:ns[j].path=(pathsN ns).getD j []:=by rw [eV,List.getD_eq_getElem?_getD,List.getElem?_eq_getElem hj];rfl
  rw [ej,←eV] at e2
  have hl:=bi ns
  rcases Nat.lt_or_gt_of_ne e with h1|h1
  ·have:=bd hr h1 (by omega);rw [e2] at this;exact List.lt_irrefl _ this
  ·have:=bd hr h1 (by omega);rw [e2] at this;exact List.lt_irrefl _ this
theorem y9 {ns:List ANode} (hr:aV (pathsN ns)) {i:Nat} {m:ANode} (hi:i<ns.length) (h:m∈ns.eraseIdx i):m∈ns∧m.path≠(ns.getD i default).path:=by
 refine ⟨List.mem_of_mem_eraseIdx h,fun e2=>?_⟩
 rw [List.mem_eraseIdx_iff_getElem] at h
 obtain ⟨j,hj,hne,e⟩:=h
 have ej:m.path=(pathsN ns).getD j []:=by rw [eV,List.getD_eq_getElem?_getD,List.getElem?_eq_getElem hj,←e];rfl
 rw [ej,←eV] at e2
 have hl:=bi ns
 rcases Nat.lt_or_gt_of_ne hne with h1|h1
 ·have:=bd hr h1 (by omega);rw [e2] at this;exact List.lt_irrefl _ this
 ·have:=bd hr h1 (by omega);rw [e2] at this;exact List.lt_irrefl _ this
theorem wx {L:List (List UInt8)} {p:List UInt8} (hr:aV L) (h:p∈L) {q:List UInt8}:q∈L.eraseIdx (place L p)↔q∈L∧q≠p:=by
 have hf:=ao hr h
 constructor
 ·intro hq
  refine ⟨List.mem_of_mem_eraseIdx hq,fun e=>?_⟩
  subst e
  rw [List.mem_eraseIdx_iff_getElem] at hq
  obtain ⟨j,hj,hne,e⟩:=hq
  have ej:L.getD j []=q:=by rw [List.getD_eq_getElem?_getD,List.getElem?_eq_getElem hj];exact e
  have hpl:=hf.1
  rcases Nat.lt_or_gt_of_ne hne with h1|h1
  ·have:=bd hr h1 (by omega);rw [hf.2,ej] at this;exact List.lt_irrefl _ this
  ·have:=bd hr h1 (by omega);rw [hf.2,ej] at this;exact List.lt_irrefl _ this
 ·intro hq
  exact iN hq.1 (by rw [hf.2];exact fun e=>hq.2 e.symm)
theorem fp {z:Int} (h0:-9223372036854775808≤z) (h1:z<9223372036854775808):IntKind.i64.wrap z=z:=by
 rw [IntKind.wrap_i64];omega
theorem Hr:dirP [47]=[]:=by unfold dirP;rw [mB]
theorem GI {ns:List ANode} {ss:List Int} {z C:Int} (hp:PsOk (pathsN ns)) (hn:∀ n,n∈ns→NdOk (pathsN ns) ss z C n) {p:List UInt8} (hm:p∈pathsN ns) (h47:p≠[47]) (hk:dT (pathsN ns) p=0) {z':Int} (hz:z≤z') (hC:C<4294967296) :
  pathsN (gX ns p z')=(pathsN ns).eraseIdx (place (pathsN ns) p)∧PsOk (pathsN (gX ns p z'))∧∀ n,n∈gX ns p z'→NdOk (pathsN (gX ns p z')) ss z' (C+1) n∧∃ m,m∈ns∧m.path=n.path∧m.stat.owner=n.stat.owner:=by
 have hr:=hp.rises
 have hf:=ao hr hm
 have hi:place (pathsN ns) p<ns.length:=by have:=hf.1;rwa [bi] at this
 have e1:pathsN (gX ns p z')=(pathsN ns).eraseIdx (place (pathsN ns) p):=by unfold gX;rw [mo,cy]
 have hmem:=fun q=>wx hr hm (q:=q)
 have hdm:dirP p∈pathsN ns:=(hp.up p hm).resolve_left h47
 have hdn:dirP p≠p:=yq (hp.good p hm) h47
 have hdm2:dirP p∈(pathsN ns).eraseIdx (place (pathsN ns) p):=(hmem _).2 ⟨hdm,hdn⟩
 have hr2:=ib hr (place (pathsN ns) p)
 have hno:∀ q,q∈pathsN ns→dirP q≠p:=fun q hq e=>by
  have:=sW hq;rw [e] at this;omega
 have hct:∀ q,dT ((pathsN ns).eraseIdx (place (pathsN ns) p)) q+(if dirP p=q then 1 else 0)=dT (pathsN ns) q:=fun q=>by
  have:=xK hf.1 q
  rwa [hf.2] at this
 refine ⟨e1,?_,?_⟩
 ·rw [e1]
  refine ⟨hr2,(hmem _).2 ⟨hp.root,fun e=>h47 e.symm⟩,?_,fun q hq=>hp.good q ((hmem q).1 hq).1,fun q hq=>?_⟩
  ·have:=hp.len;rw [dH _ _ hf.1];omega
  ·have hq1:=((hmem q).1 hq).1
   exact (hp.up q hq1).imp id fun h=>(hmem _).2 ⟨h,hno q hq1⟩
 ·intro n hnm
  rw [e1]
  unfold gX oO at hnm
  rw [if_pos (by rw [cy];exact hdm2),cy] at hnm
  have hf2:=ao hr2 hdm2
  have hlen:(ns.eraseIdx (place (pathsN ns) p)).length=((pathsN ns).eraseIdx (place (pathsN ns) p)).length:=by rw [←cy,bi]
  have hi2:place ((pathsN ns).eraseIdx (place (pathsN ns) p)) (dirP p)<(ns.eraseIdx (place (pathsN ns) p)).length:=by rw [hlen];exact hf2.1
  have hpd:((ns.eraseIdx (place (pathsN ns) p)).getD (place ((pathsN ns).eraseIdx (place (pathsN ns) p)) (dirP p)) default).path=dirP p:=by
   rw [←eV,cy];exact hf2.2
  have hd0:=bU (ns.eraseIdx (place (pathsN ns) p)) _ hi2
  rcases qG (by rw [cy];exact hr2) hi2 hnm with e|⟨h1,h2⟩
  ·generalize (ns.eraseIdx (place (pathsN ns) p)).getD (place ((pathsN ns).eraseIdx (place (pathsN ns) p)) (dirP p)) default=d at hpd hd0 e
   have hdn2:=List.mem_of_mem_eraseIdx hd0
   have ho:=hn d hdn2
   have hpos:=sW hm
   have hle:=rm (pathsN ns) (dirP p)
   have hl4:=hp.len
   have hkd:=ho.kids
   rw [hpd] at hkd
   have how:d.stat.owner=0:=by
    apply Classical.byContradiction
    intro h;have:=(ho.own h).2;omega
   have hc:=hct (dirP p)
   rw [if_pos rfl] at hc
   subst e
   have hcv:=ho.cv
   have hzs:=ho.zs
   refine ⟨⟨ho.data,ho.v,⟨?_,?_⟩,?_,fun h=>absurd how h,fun h=>how,?_⟩,d,hdn2,rfl,rfl⟩
   ·show 0≤IntKind.i64.wrap (d.stat.cversion+1)
    rw [fp (by omega) (by omega)];omega
   ·show IntKind.i64.wrap (d.stat.cversion+1)≤C+1
    rw [fp (by omega) (by omega)];omega
   ·show 0≤d.stat.czxid∧d.stat.czxid≤d.stat.mzxid∧d.stat.czxid≤z'∧d.stat.mzxid≤z'∧z'≤z'
    omega
   ·show IntKind.i64.wrap (d.stat.kids+-1)=_
    rw [fp (by omega) (by omega)]
    show _=((dT _ d.path:Nat):Int)
    rw [hpd];omega
  ·obtain ⟨h3,h4⟩:=y9 hr hi h1
   rw [hpd] at h2
   have ho:=hn n h3
   have hc:=hct n.path
   rw [if_neg (fun e=>h2 e.symm)] at hc
   have hcv:=ho.cv
   have hzs:=ho.zs
   exact ⟨⟨ho.data,ho.v,by omega,by omega,ho.own,ho.root,by rw [ho.kids];omega⟩,n,h3,rfl,rfl⟩
theorem NdOk.more {L:List (List UInt8)} {ss ss':List Int} {z z' C:Int} {n:ANode} (h:NdOk L ss z C n) (hz:z≤z') (hs:∀ s,s∈ss→s∈ss'):NdOk L ss' z' C n:=
 ⟨h.data,h.v,h.cv,by have:=h.zs;omega,fun h0=>⟨hs _ (h.own h0).1,(h.own h0).2⟩,h.root,h.kids⟩
theorem Ld {ns:List ANode} {ss:List Int} {z C:Int} (hp:PsOk (pathsN ns)) (hn:∀ n,n∈ns→NdOk (pathsN ns) ss z C n) {x:ATxn} (hm:¬ x.path∈pathsN ns) (hg:bw x.path=true) (h47:x.path≠[47]) (hd:dirP x.path∈pathsN ns) (hdata:x.data.length≤256)
  (hl:ns.length<400) (hown:∀ n,n∈ns→n.path=dirP x.path→n.stat.owner=0) (hxo:x.owner≠0→x.owner∈ss) (hz:z≤x.zxid) (hz0:0≤x.zxid) (hC:C<4294967296) (hC0:0≤C) :
  PsOk (pathsN (rx ns x))∧∀ n,n∈rx ns x→NdOk (pathsN (rx ns x)) ss x.zxid (C+1) n:=by
 have hr:=hp.rises
 have hpl:=fI (pathsN ns) x.path
 have hpl2:place (pathsN ns) x.path≤ns.length:=by rwa [bi] at hpl
 have e1:pathsN (rx ns x)=(pathsN ns).insertIdx (place (pathsN ns) x.path) x.path:=by unfold rx;rw [mo,mc];rfl
 have hmem:=fun q=>AQ (y:=q) (x:=x.path) hpl
 have hr2:=nL hr hm
 have hdn:dirP x.path≠x.path:=yq hg h47
 have hct:∀ q,dT ((pathsN ns).insertIdx (place (pathsN ns) x.path) x.path) q=dT (pathsN ns) q+(if dirP x.path=q then 1 else 0):=fun q=>C1 hpl x.path q
 have hd2:dirP x.path∈(pathsN ns).insertIdx (place (pathsN ns) x.path) x.path:=(hmem _).2 (.inr hd)
 have hkx:dT (pathsN ns) x.path=0:=by
  apply Classical.byContradiction
  intro h
  obtain ⟨q,hq,hq2⟩:=List.countP_pos_iff.1 (Nat.pos_of_ne_zero h)
  have hq2:dirP q=x.path:=by simpa using hq2
  rcases hp.up q hq with e|e
  ·rw [e,Hr] at hq2
   rw [←hq2,CF] at hg;cases hg
  ·rw [hq2] at e;exact hm e
 refine ⟨?_,?_⟩
 ·rw [e1]
  refine ⟨hr2,(hmem _).2 (.inr hp.root),?_,fun q hq=>?_,fun q hq=>?_⟩
  ·rw [eI _ _ _ hpl,bi];omega
  ·rcases (hmem q).1 hq with e|e
   ·rw [e];exact hg
   ·exact hp.good q e
  ·rcases (hmem q).1 hq with e|e
   ·rw [e];exact .inr hd2
   ·exact (hp.up q e).imp id fun h=>(hmem _).2 (.inr h)
 ·intro n hnm
  rw [e1]
  unfold rx oO at hnm
  have ep:pathsN (ns.insertIdx (place (pathsN ns) x.path) (mkN x))=(pathsN ns).insertIdx (place (pathsN ns) x.path) x.path:=by rw [mc];rfl
  rw [ep,if_pos hd2] at hnm
  have hf2:=ao hr2 hd2
  have hi2:place ((pathsN ns).insertIdx (place (pathsN ns) x.path) x.path) (dirP x.path)<(ns.insertIdx (place (pathsN ns) x.path) (mkN x)).length:=by rw [←bi,ep];exact hf2.1
  have hpd:((ns.insertIdx (place (pathsN ns) x.path) (mkN x)).getD (place ((pathsN ns).insertIdx (place (pathsN ns) x.path) x.path) (dirP x.path)) default).path=dirP x.path:=by
   rw [←eV,ep];exact hf2.2
  have hd0:=bU (ns.insertIdx (place (pathsN ns) x.path) (mkN x)) _ hi2
  rcases qG (by rw [ep];exact hr2) hi2 hnm with e|⟨h1,h2⟩
  ·generalize (ns.insertIdx (place (pathsN ns) x.path) (mkN x)).getD (place ((pathsN ns).insertIdx (place (pathsN ns) x.path) x.path) (dirP x.path)) default=d at hpd hd0 e
   rcases (List.mem_insertIdx hpl2).1 hd0 with hdx|hdn2
   ·rw [hdx] at hpd;exact absurd hpd.symm hdn
   have ho:=hn d hdn2
   have how:=hown d hdn2 hpd
   have hle:=rm (pathsN ns) (dirP x.path)
   have hl4:=hp.len
   have hkd:=ho.kids
   rw [hpd] at hkd
   have hc:=hct (dirP x.path)
   rw [if_pos rfl] at hc
   subst e
   have hcv:=ho.cv
   have hzs:=ho.zs
   refine ⟨ho.data,ho.v,⟨?_,?_⟩,?_,fun h=>absurd how h,fun h=>how,?_⟩
   ·show 0≤IntKind.i64.wrap (d.stat.cversion+1)
    rw [fp (by omega) (by omega)];omega
   ·show IntKind.i64.wrap (d.stat.cversion+1)≤C+1
    rw [fp (by omega) (by omega)];omega
   ·show 0≤d.stat.czxid∧d.stat.czxid≤d.stat.mzxid∧d.stat.czxid≤x.zxid∧d.stat.mzxid≤x.zxid∧x.zxid≤x.zxid
    omega
   ·show IntKind.i64.wrap (d.stat.kids+1)=((dT _ d.path:Nat):Int)
    rw [fp (by omega) (by omega),hpd];omega
  ·rw [hpd] at h2
   rcases (List.mem_insertIdx hpl2).1 h1 with e|h3
   ·subst e
    have hc:=hct x.path
    rw [if_neg hdn,hkx] at hc
    refine ⟨hdata,⟨Int.le_refl _,by show (0:Int)≤2147483647;decide⟩,⟨Int.le_refl _,by show 0≤C+1;omega⟩,?_,fun h=>⟨hxo h,rfl⟩,fun h=>absurd h h47,?_⟩
    ·show 0≤x.zxid∧x.zxid≤x.zxid∧x.zxid≤x.zxid∧x.zxid≤x.zxid∧x.zxid≤x.zxid
     omega
    ·show (0:Int)=((dT _ x.path:Nat):Int)
     rw [hc];rfl
   ·have ho:=hn n h3
    have hc:=hct n.path
    rw [if_neg (fun e=>h2 e.symm)] at hc
    have hcv:=ho.cv
    have hzs:=ho.zs
    exact ⟨ho.data,ho.v,by omega,by omega,ho.own,ho.root,by rw [ho.kids];omega⟩
theorem J7 {ns:List ANode} {ss:List Int} {z C:Int} (hp:PsOk (pathsN ns)) (hn:∀ n,n∈ns→NdOk (pathsN ns) ss z C n) {x:ATxn} (hm:x.path∈pathsN ns) (hdata:x.data.length≤256) (hv:0≤x.version∧x.version≤2147483647) (hz:z≤x.zxid) :
  PsOk (pathsN (setN ns x))∧∀ n,n∈setN ns x→NdOk (pathsN (setN ns x)) ss x.zxid C n:=by
 have hf:=ao hp.rises hm
 have hi:place (pathsN ns) x.path<ns.length:=by have:=hf.1;rwa [bi] at this
 have e1:pathsN (setN ns x)=pathsN ns:=by unfold setN;exact ro _ _ _ rfl
 refine ⟨by rw [e1];exact hp,fun n hnm=>?_⟩
 rw [e1]
 unfold setN at hnm
 rcases qG hp.rises hi hnm with e|⟨h1,h2⟩
 ·have hd0:=bU ns _ hi
  generalize ns.getD (place (pathsN ns) x.path) default=d at hd0 e
  have ho:=hn d hd0
  have hzs:=ho.zs
  subst e
  refine ⟨hdata,hv,ho.cv,?_,ho.own,ho.root,ho.kids⟩
  show 0≤d.stat.czxid∧d.stat.czxid≤x.zxid∧d.stat.czxid≤d.stat.pzxid∧x.zxid≤x.zxid∧d.stat.pzxid≤x.zxid
  omega
 ·exact (hn n h1).more hz fun _ h=>h
theorem NdOk.cap {L:List (List UInt8)} {ss:List Int} {z C:Int} {n:ANode} (h:NdOk L ss z C n) (hb:gZ n=false):NdOk L ss z 2147483647 n:=by
 unfold gZ at hb
 rw [decide_eq_false_iff_not] at hb
 exact ⟨h.data,h.v,⟨h.cv.1,by omega⟩,h.zs,h.own,h.root,h.kids⟩
theorem Bm {l:List Int}:e9 l↔l.Pairwise (fun a b=>a<b):=by
 have gd (j:Nat) (hj:j<l.length):l.getD j default=l[j]:=by rw [List.getD_eq_getElem?_getD,List.getElem?_eq_getElem hj];rfl
 constructor
 ·intro h
  refine List.pairwise_iff_getElem.2 fun i j hi hj hij=>?_
  have:=eo h hij hj
  rwa [gd i hi,gd j hj] at this
 ·intro h k hk
  rw [gd k (by omega),gd (k+1) hk]
  exact List.pairwise_iff_getElem.1 h k (k+1) (by omega) hk (by omega)
theorem kL {l:List Int}:(∀ k,k<l.length→ey l k)↔e9 l∧∀ s,s∈l→1≤s∧s≤2147483647:=by
 constructor
 ·intro h
  refine ⟨l0 h,fun s hs=>?_⟩
  obtain ⟨k,hk,rfl⟩:=(bx l default s).1 hs
  exact ⟨(h k hk).1,(h k hk).2.1⟩
 ·intro h k hk
  have:=h.2 _ (bU l k hk)
  refine ⟨this.1,this.2,fun h0=>?_⟩
  have:=h.1 (k-1) (by omega)
  rwa [Nat.sub_add_cancel h0] at this
theorem GC {l:List Int} (h:∀ k,k<l.length→ey l k) {s:Int} (hs:1≤s∧s≤2147483647) (hm:¬ s∈l):∀ k,k<(l.insertIdx (aS l s) s).length→ey (l.insertIdx (aS l s) s) k:=by
 obtain ⟨h1,h2⟩:=kL.1 h
 rw [←xW h1 hm]
 have hp:=Bm.1 h1
 refine kL.2 ⟨Bm.2 ?_,fun q hq=>?_⟩
 ·refine List.pairwise_append.2 ⟨hp.filter _,List.pairwise_cons.2 ⟨fun b hb=>?_,hp.filter _⟩,fun a ha b hb=>?_⟩
  ·exact of_decide_eq_true (List.mem_filter.1 hb).2
  ·have h3:a<s:=of_decide_eq_true (List.mem_filter.1 ha).2
   rcases List.mem_cons.1 hb with e|e
   ·omega
   ·have h4:s<b:=of_decide_eq_true (List.mem_filter.1 e).2
    omega
 ·rcases List.mem_append.1 hq with e|e
  ·exact h2 q (List.mem_filter.1 e).1
  ·rcases List.mem_cons.1 e with e|e
   ·rw [e];exact hs
   ·exact h2 q (List.mem_filter.1 e).1
theorem y7 {l:List Int} (h:∀ k,k<l.length→ey l k) {s:Int} (hm:s∈l):(∀ k,k<(l.eraseIdx (aS l s)).length→ey (l.eraseIdx (aS l s)) k)∧∀ q,q∈l→q≠s→q∈l.eraseIdx (aS l s):=by
 obtain ⟨h1,h2⟩:=kL.1 h
 rw [←sm h1 hm]
 refine ⟨kL.2 ⟨Bm.2 ((Bm.1 h1).filter _),fun q hq=>h2 q (List.mem_filter.1 hq).1⟩,fun q hq hne=>List.mem_filter.2 ⟨hq,by simpa using hne⟩⟩
theorem ob {t:ATree} (hr:aV (aK t)) {j k:Nat} (hj:j<t.nodes.length) (hk:k<t.nodes.length) (h:(nd t j).path=(nd t k).path):j=k:=by
 rw [←aU,←aU] at h
 have hl:=aQ t
 rcases Nat.lt_trichotomy j k with h1|h1|h1
 ·have:=bd hr h1 (by omega);rw [h] at this;exact absurd this (List.lt_irrefl _)
 ·exact h1
 ·have:=bd hr h1 (by omega);rw [h] at this;exact absurd this (List.lt_irrefl _)
theorem sO {t:ATree} (hg:aI t=true) {s z:Int} (hs:s≠0) (hz:t.zxid≤z):∀ k,k≤t.nodes.length→
  PsOk (pathsN (bc t s z k).1)∧(∀ n,n∈(bc t s z k).1→NdOk (pathsN (bc t s z k).1) t.sessions z (2147483647+k) n∧∃ m,m∈t.nodes∧m.path=n.path∧m.stat.owner=n.stat.owner)∧
   ∀ j,j<t.nodes.length→(¬ (nd t j).path∈pathsN (bc t s z k).1↔j<k∧(nd t j).stat.owner=s)
 | 0,_=>by
   obtain ⟨h1,h2⟩:=u9 hg
   refine ⟨h1,fun n hn=>⟨(h2 n hn).more hz fun _ h=>h,n,hn,rfl,rfl⟩,fun j hj=>⟨fun h=>absurd (List.mem_map_of_mem (kA hj)) h,fun h=>absurd h.1 (by omega)⟩⟩
 | k + 1,hk=>by
   obtain ⟨h1,h2,h3⟩:=sO hg hs hz k (by omega)
   have hr:=aZ hg
   have hl4:=(db hg).2.1
   by_cases e:(nd t k).stat.owner=s
   ·have ec:(bc t s z (k+1)).1=gX (bc t s z k).1 (nd t k).path z:=by
     rw [bc];unfold nd at e;rw [if_pos e];rfl
    have hm:(nd t k).path∈pathsN (bc t s z k).1:=Classical.not_not.1 fun h=>absurd ((h3 k (by omega)).1 h).1 (by omega)
    obtain ⟨m,hm1,hm2⟩:=List.mem_map.1 hm
    obtain ⟨q1,m0,q2,q3,q4⟩:=h2 m hm1
    have howner:m.stat.owner=s:=by
     obtain ⟨j,hj,rfl⟩:=(bx t.nodes default m0).1 q2
     change (nd t j).path=m.path at q3
     change (nd t j).stat.owner=m.stat.owner at q4
     rw [hm2] at q3
     have:=ob hr hj (by omega) q3
     subst this
     rw [←q4];exact e
    have h47:(nd t k).path≠[47]:=fun h=>by
     have:=q1.root (by rw [hm2];exact h)
     omega
    have hk0:dT (pathsN (bc t s z k).1) (nd t k).path=0:=by
     have a:=(q1.own (by omega)).2
     have b:=q1.kids
     rw [hm2] at b;omega
    obtain ⟨d1,d2,d3⟩:=GI h1 (fun n hn=>(h2 n hn).1) hm h47 hk0 (Int.le_refl z) (by omega)
    rw [ec]
    refine ⟨d2,fun n hn=>?_,fun j hj=>?_⟩
    ·obtain ⟨b1,m2,b2,b3,b4⟩:=d3 n hn
     obtain ⟨_,m3,c1,c2,c3⟩:=h2 m2 b2
     refine ⟨by rw [show (2147483647+((k+1:Nat):Int))=2147483647+(k:Int)+1 from by omega];exact b1,m3,c1,by rw [c2,b3],by rw [c3,b4]⟩
    ·rw [d1,wx h1.rises hm]
     have h3j:=h3 j hj
     constructor
     ·intro h
      by_cases ej:(nd t j).path=(nd t k).path
      ·have:=ob hr hj (by omega) ej
       subst this;exact ⟨by omega,e⟩
      ·have:=h3j.1 fun hh=>h ⟨hh,ej⟩
       exact ⟨by omega,this.2⟩
     ·intro h hh
      by_cases ej:j=k
      ·subst ej;exact hh.2 rfl
      ·exact h3j.2 ⟨by omega,h.2⟩ hh.1
   ·have ec:(bc t s z (k+1)).1=(bc t s z k).1:=by
     rw [bc];unfold nd at e;rw [if_neg e]
    rw [ec]
    refine ⟨h1,fun n hn=>⟨?_,(h2 n hn).2⟩,fun j hj=>?_⟩
    ·have:=(h2 n hn).1
     exact ⟨this.data,this.v,by have:=this.cv;omega,this.zs,this.own,this.root,this.kids⟩
    ·rw [h3 j hj]
     constructor
     ·intro h;exact ⟨by omega,h.2⟩
     ·intro h
      refine ⟨?_,h.2⟩
      have:j≠k:=fun ej=>e (by rw [←ej];exact h.2)
      omega
theorem pU {t:ATree} {x:ATxn} (h:(ar t x).2.2=0):aI (ar t x).1=true:=by
 have h0:cS t x=0:=by
  apply Classical.byContradiction;intro hw
  rw [mT hw] at h;exact hw h
 have hb:(dk t x).1.nodes.any gZ=false:=by
  apply Classical.byContradiction;intro hb
  rw [eL h0 (by simpa using hb)] at h;cases h
 rw [gS h0 hb]
 obtain ⟨hg,hx,hz,w1,w2,w3,w4,w5⟩:=dU h0
 obtain ⟨g1,g2,g3,g4,g5,g6,g7⟩:=eX hx
 obtain ⟨p1,p2⟩:=u9 hg
 obtain ⟨hhd,hss,_,_⟩:=bq.1 hg
 have hl4:=hhd.2.1
 have hgz:bR x.zxid:=by
  have h9:ly x=true:=by
   apply Classical.byContradiction;intro hn
   rw [ol g2 hn] at hx;cases hx
  unfold ly at h9
  rw [Bool.and_eq_true,decide_eq_true_eq] at h9
  exact h9.1
 have hcap:∀ n,n∈(dk t x).1.nodes→gZ n=false:=fun n hn=>by
  have:=List.any_eq_false.1 hb n hn
  simpa using this
 unfold dk at hcap ⊢
 by_cases o1:x.op=1
 ·rw [if_pos o1] at hcap ⊢
  have hpl:aS t.sessions x.session≤t.sessions.length:=List.findIdx_le_length
  exact iK hgz (GC hss g3 (w1 o1)) p1 fun n hn=>(p2 n hn).more (Int.le_of_lt hz) fun s hs=>(List.mem_insertIdx hpl).2 (.inr hs)
 have hm:=w2 o1
 rw [if_neg o1] at hcap ⊢
 by_cases o2:x.op=2
 ·rw [if_pos o2] at hcap ⊢
  obtain ⟨c1,c2,c3⟩:=sO hg (s:=x.session) (z:=x.zxid) (by omega) (Int.le_of_lt hz) t.nodes.length (Nat.le_refl _)
  obtain ⟨e1,e2⟩:=y7 hss hm
  refine iK hgz e1 c1 fun n hn=>?_
  obtain ⟨b1,m,b2,b3,b4⟩:=c2 n hn
  have hne:n.stat.owner≠x.session:=fun e=>by
   obtain ⟨j,hj,rfl⟩:=(bx t.nodes default m).1 b2
   have:=(c3 j hj).2 ⟨hj,by change (nd t j).stat.owner=_ at b4;rw [b4];exact e⟩
   change (nd t j).path=_ at b3
   rw [b3] at this
   exact this (FW hn)
  have b5:=b1.cap (hcap n hn)
  exact ⟨b5.data,b5.v,b5.cv,b5.zs,fun h=>⟨e2 _ (b5.own h).1 hne,(b5.own h).2⟩,b5.root,b5.kids⟩
 rw [if_neg o2] at hcap ⊢
 by_cases o3:x.op=3
 ·rw [if_pos o3] at hcap ⊢
  obtain ⟨q1,q2⟩:=mv hx (by omega)
  obtain ⟨r1,r2,r3⟩:=w3 o3
  have hlk:nQ t x (aX t x.path).2=0:=by
   unfold cS at h0
   rw [if_neg (by rw [hg];decide),if_neg (fun h=>h hx),if_neg (by omega),if_neg o1,if_neg (fun h=>h hm),if_pos o3] at h0
   exact h0
  unfold nQ at hlk
  rw [zi r1,if_neg (by decide)] at hlk
  have hdz:(aX t (af x.path).1.1).2=0:=iQ.2 r2
  rw [if_neg (fun h=>h hdz)] at hlk
  have hpo:(aX t (af x.path).1.1).1.stat.owner=0:=by
   apply Classical.byContradiction;intro hn;rw [if_pos hn] at hlk;cases hlk
  rw [if_neg (fun h=>h hpo)] at hlk
  have hxo:¬ (¬ x.owner=0∧¬ x.owner=x.session):=fun hn=>by rw [if_pos hn] at hlk;cases hlk
  have hown:∀ n,n∈t.nodes→n.path=dirP x.path→n.stat.owner=0:=fun n hn he=>by
   obtain ⟨j,hj,rfl⟩:=(bx t.nodes default n).1 hn
   change (nd t j).path=_ at he
   change (nd t j).stat.owner=0
   have hf:=ao (aZ hg) r2
   unfold aX at hpo
   rw [if_pos (show (af x.path).1.1∈aK t from r2)] at hpo
   have hpl:=hf.1
   rw [aQ] at hpl
   have:j=place (aK t) (af x.path).1.1:=ob (aZ hg) hj hpl (by rw [he,←aU];exact hf.2.symm)
   rw [this];exact hpo
  obtain ⟨a1,a2⟩:=Ld p1 p2 r1 q1 q2 r2 g7 r3 hown (fun h=>by
   have:x.owner=x.session:=Classical.byContradiction fun hn=>hxo ⟨h,hn⟩
   rw [this];exact hm) (Int.le_of_lt hz) g1.1 (by decide) (by decide)
  exact iK hgz hss a1 fun n hn=>(a2 n hn).cap (hcap n hn)
 rw [if_neg o3] at hcap ⊢
 by_cases o4:x.op=4
 ·rw [if_pos o4] at hcap ⊢
  obtain ⟨q1,q2⟩:=mv hx (by omega)
  obtain ⟨r1,r2⟩:=w4 o4
  have hf:=ao (aZ hg) r1
  have hpl:=hf.1
  rw [aQ] at hpl
  have hk0:dT (pathsN t.nodes) x.path=0:=by
   have:=(p2 _ (kA hpl)).kids
   unfold aX at r2
   rw [if_pos r1] at r2
   simp only at r2
   have hpe:=hf.2
   rw [aU] at hpe
   rw [hpe] at this
   change _=((dT (pathsN t.nodes) x.path:Nat):Int) at this
   omega
  obtain ⟨d1,d2,d3⟩:=GI p1 p2 r1 q2 hk0 (Int.le_of_lt hz) (by decide)
  exact iK hgz hss d2 fun n hn=>(d3 n hn).1.cap (hcap n hn)
 rw [if_neg o4] at hcap ⊢
 obtain ⟨a1,a2⟩:=J7 p1 p2 (w5 (by omega)) g7 g4 (Int.le_of_lt hz)
 exact iK hgz hss a1 a2
theorem quorum_c:ab Tryz.prog [] 107 [] (ret (I 2)):=by
 refine zJ Tryz.func107 Tryz.ntmps107 Tryz.results107 ?_;simp only [go_sem]
 (refine zW qw zn trivial (z1 ?_)<;>(repeat with_reducible intro hc))
 all_goals try (refine ja ?_ rfl ?_ ?_ ?_ ?_;(focus (first|exact .inl rfl|exact .inr rfl));(focus (simp only [go_sem,true_and];first|done|omega));(focus (simp only [go_sem,true_and];done));(focus (simp only [go_sem,true_and];done));simp only [go_sem,true_and,I,B,S,AV.d.injEq,DV.int.injEq,DV.bool.injEq,DV.str.injEq,DV.sl.injEq,AV.tup.injEq,AV.agg.injEq,List.cons.injEq,and_true,true_and,and_self])
theorem ahead_c (a b:APeer) (h:a.log.length*72≤140737488351232) (h2:b.log.length*72≤140737488351232):ab Tryz.prog [] 182 [a.av,b.av] (ret (B (mb a b))):=by
 refine zJ Tryz.func182 Tryz.ntmps182 Tryz.results182 ?_;simp only [go_sem]
 (refine zW qw (z2 (last_c _ h) (last_c _ h2)) trivial (z1 ?_)<;>(repeat with_reducible intro hc))
 all_goals exact zEe @mb.eq_1
theorem yF (p:APeer) (h:p.log.length*72≤140737488351232):ab Tryz.prog [] 104 [p.av] (ret (.tup [I (dC p).1,I (dC p).2])):=by
 refine zJ Tryz.func104 Tryz.ntmps104 Tryz.results104 ?_;simp only [go_sem]
 (refine zW qw (z4 (last_c _ h) (ho fun z=>epoch_c z) (z6 _ _) (ho fun z=>KO z)) @two.eq_1 (z3 ?_ ?_ ?_)<;>(repeat with_reducible intro hc))
 all_goals (unfold dC)
 ·rw [if_pos (by assumption),if_pos hc];exact zEe trivial
 ·rw [if_pos (by assumption),if_neg (fun h=>h hc)];exact zEe trivial
 ·rw [if_neg (by omega)];exact zEe trivial
def qr (p:Int×Int×Int):AV:=.tup [I p.1,I p.2.1,I p.2.2]
theorem ix {l:List APeer} {n:Nat} (h:bn l n≠0):∀ m,n≤m→bn l m=bn l n
 |0,hm=>by have:n=0:=by omega
           rw [this]
 | m + 1,hm=>by
   by_cases e:n=m+1
   ·rw [e]
   ·have:=ix h m (by omega)
    simp only [bn]
    rw [this,if_neg h]
theorem tO {l:List APeer} {i:Nat} (hi:i<l.length) (h0:bn l i=0) (h:ia l i≠0):bT l=(0,0,ia l i):=by
 have h1:bn l (i+1)=ia l i:=by simp only [bn];rw [if_pos h0]
 have h2:=ix (n:=i+1) (by rw [h1];exact h) l.length hi
 unfold bT
 rw [h2,h1,if_neg h]
theorem Dq {l:List APeer} {i k:Nat} (hk:k<i) (hi:i<l.length) (h:(l.getD k default).id=(l.getD i default).id):pV l i=true:=by
 unfold pV
 rw [List.any_eq_true]
 refine ⟨l.getD k default,?_,by simpa using h⟩
 rw [List.mem_take_iff_getElem]
 refine ⟨k,by omega,?_⟩
 rw [List.getD_eq_getElem?_getD,List.getElem?_eq_getElem (by omega)];rfl
theorem vH {l:List APeer} {i:Nat} (hi:i<l.length) (h:∀ k,k<i→¬ (l.getD k default).id=(l.getD i default).id):pV l i=false:=by
 unfold pV
 rw [List.any_eq_false]
 intro q hq
 rw [List.mem_take_iff_getElem] at hq
 obtain ⟨k,hk,rfl⟩:=hq
 have:=h k (by omega)
 rw [List.getD_eq_getElem?_getD,List.getElem?_eq_getElem (by omega)] at this
 simpa using this
theorem Ex {l:List APeer} {n:Nat} (h:bn l n=0):∀ i,i<n→jB (l.getD i default)=false:=by
 induction n with
 |zero=>intro i hi;omega
 | succ n ih=>
   simp only [bn] at h
   split at h
   ·rename_i h0
    intro i hi
    by_cases e:i=n
    ·subst e
     unfold ia at h
     split at h
     ·simp at h
     ·split at h
      ·simp at h
      ·rename_i hb;simpa using hb
    ·exact ih h0 i (by omega)
   ·contradiction
theorem Gn (z:Int):0≤epZ z∧epZ z≤2147483647:=by
 unfold epZ;split
 ·rename_i h;unfold bR at h;omega
 ·omega
theorem sa {l:List APeer} {n m:Nat} (h:bn l m=0) (hn:n≤m):bn l n=0:=by
 by_cases e:bn l n=0
 ·exact e
 ·rw [ix e m hn] at h;exact absurd h e
theorem qo {l:List APeer}:∀ (n:Nat),bn l n=0→0≤(cB l n).2∧(cB l n).2≤2147483647∧((cB l n).1=0∨(cB l n).1<n)
 |0,_=>⟨by simp [cB],by simp [cB],.inl rfl⟩
 | n + 1,h=>by
   have hb:=Ex h n (by omega)
   have h0:bn l n=0:=by
    simp only [bn] at h
    split at h
    ·assumption
    ·contradiction
   obtain ⟨a,b,c⟩:=qo n h0
   have:=Gn (az (l.getD n default).log)
   simp only [jB,Bool.or_eq_false_iff,decide_eq_false_iff_not] at hb
   simp only [cB,mx]
   refine ⟨by split<;>split<;>omega,by split<;>split<;>omega,?_⟩
   split
   ·right;omega
   ·omega
theorem IT (l:List APeer) (h:l.length≤140737488351232) (h2:∀ p,p∈l→p.log.length*72≤140737488351232):ab Tryz.prog [] 113 [.d (.sl 4 (l.map APeer.row))] (ret (qr (bT l))):=by
 refine zJ Tryz.func113 Tryz.ntmps113 Tryz.results113 ?_;simp only [go_sem]
 (refine zW qw zn trivial (z1 ?_)<;>(repeat with_reducible intro hc))
 refine AWP.loopB (ι:=Nat) (fun i=>i≤l.length∧bn l i=0) (fun i=>l.length-i) [0,12,13] (fun i=>[(14,I i)]) (fun i=>[]) 0 ?_ ?_ ?_
 ·exact ⟨by omega,rfl⟩
 ·simp only [go_sem];exact zSm trivial
 intro i ⟨hi,h0⟩
 simp only [go_sem]
 (repeat' first
|(with_reducible refine AR.f ?_)
|refine ap (by decide) ?_
|(with_reducible refine AWP.cond rfl ?_ ?_<;>intro hc<;>(try simp only [hcs,beq_iff_eq,ge_iff_le,gt_iff_lt] at hc))
|((first|((first|(with_reducible first|refine zR ?_|refine zQ (by decide +kernel) ?_|refine zD (by decide +kernel) ?_|refine zE (by decide +kernel) ?_|refine zG (by decide +kernel) ?_));intro K hK)|((first|(with_reducible refine aunder_i ?_ ?_<;>intro hg)|with_reducible intro hg)<;>(first|(exfalso;simp at hg;done)|(have hg':=hg;(try simp only [hcs,beq_iff_eq,ge_iff_le,gt_iff_lt] at hg');(try simp only [hg])))))<;>(try simp (disch:=omega) only [go_sem,aa,dW])<;>(repeat' with_reducible refine And.intro ?_ ?_)<;>(try (with_reducible refine hK _ ?_;clear hK K)))
|omega)
 ·have hil:=hc
  refine AWP.loopS (ι:=Nat) (fun k=>k≤i∧∀ j,j<k→¬ (l.getD j default).id=(l.getD i default).id) (fun k=>i-k) [0,6,12,13,14,19] (fun k=>[(20,I k)]) 0 ?_ (by simp (disch:=omega) only [go_sem,aa,true_and]) ?_
  ·exact ⟨by omega,by omega⟩
  intro k ⟨hk,hk2⟩
  simp only [go_sem]
  (repeat' first
|(with_reducible refine AR.f ?_)
|refine ap (by decide) ?_
|(with_reducible refine AWP.cond rfl ?_ ?_<;>intro hc<;>(try simp only [hcs,beq_iff_eq,ge_iff_le,gt_iff_lt] at hc))
|((first|((first|(with_reducible first|refine zR ?_|refine zQ (by decide +kernel) ?_|refine zD (by decide +kernel) ?_|refine zE (by decide +kernel) ?_|refine zG (by decide +kernel) ?_));intro K hK)|((first|(with_reducible refine aunder_i ?_ ?_<;>intro hg)|with_reducible intro hg)<;>(first|(exfalso;simp at hg;done)|(have hg':=hg;(try simp only [hcs,beq_iff_eq,ge_iff_le,gt_iff_lt] at hg');(try simp only [hg])))))<;>(try simp (disch:=omega) only [go_sem,aa,dW])<;>(repeat' with_reducible refine And.intro ?_ ?_)<;>(try (with_reducible refine hK _ ?_;clear hK K)))
|omega)
  ·have e1:ia l i=8:=by unfold ia;rw [if_pos (Dq (by omega) hil hc)]
   rw [tO hil h0 (by rw [e1];decide),e1]
   exact zEe @qr.eq_1
  ·refine ⟨k+1,⟨by omega,fun j hj=>?_⟩,by omega,?_⟩
   ·by_cases e:j=k
    ·subst e;exact hc
    ·exact hk2 j (by omega)
   exact zSm trivial
  ·have e:k=i:=by omega
   subst e
   have e1:ia l k=3:=by
    unfold ia;rw [if_neg (by rw [vH hil hk2];simp),if_pos]
    simp only [jB,Bool.or_eq_true,decide_eq_true_eq];exact hc
   rw [tO hil h0 (by rw [e1];decide),e1]
   exact zEe @qr.eq_1
  ·have e:k=i:=by omega
   subst e
   have e1:ia l k=0:=by
    unfold ia;rw [if_neg (by rw [vH hil hk2];simp),if_neg]
    simp only [jB,Bool.or_eq_true,decide_eq_true_eq];omega
   refine ⟨k+1,⟨by omega,by simp only [bn];rw [if_pos h0];exact e1⟩,by omega,?_⟩
   exact zFr [] trivial
 have e:i=l.length:=by omega
 subst e
 (repeat' first
|(with_reducible refine AR.f ?_)
|refine ap (by decide) ?_
|(with_reducible refine AWP.cond rfl ?_ ?_<;>intro hc<;>(try simp only [hcs,beq_iff_eq,ge_iff_le,gt_iff_lt] at hc))
|((first|((first|(with_reducible first|refine zR ?_|refine zQ (by decide +kernel) ?_|refine zD (by decide +kernel) ?_|refine zE (by decide +kernel) ?_|refine zG (by decide +kernel) ?_));intro K hK)|((first|refine zA quorum_c ?_ ?_ ?_ ?_ ?_);(focus exact rfl);(focus exact rfl);iterate 2 (focus ((try simp (disch:=omega) only [go_sem,aa])<;>(try omega)<;>fail)))|((first|refine zX quorum_c rfl ?_ ?_);(focus ((try simp (disch:=omega) only [go_sem,aa])<;>(try omega)<;>fail)))|((first|(with_reducible refine aunder_i ?_ ?_<;>intro hg)|with_reducible intro hg)<;>(first|(exfalso;simp at hg;done)|(have hg':=hg;(try simp only [hcs,beq_iff_eq,ge_iff_le,gt_iff_lt] at hg');(try simp only [hg])))))<;>(try simp (disch:=omega) only [go_sem,aa])<;>(repeat' with_reducible refine And.intro ?_ ?_)<;>(try (with_reducible refine hK _ ?_;clear hK K)))
|omega)
 ·unfold bT
  rw [if_pos h0,if_pos (by omega)]
  exact zEe @qr.eq_1
 ·have hl2:=hc
  refine AWP.loopB (ι:=Nat) (fun n=>n≤l.length) (fun n=>l.length-n) [0,55,56] (fun n=>[(8,I (cB l n).1),(9,I (cB l n).2),(57,I n)]) (fun n=>[]) 0 ?_ ?_ ?_
  ·omega
  ·simp only [go_sem];(refine zV [] rfl rfl rfl rfl ?_ ?_<;>simp (disch:=omega) only [go_sem,aa,Int.natCast_add,cB]<;>(try rfl))
  intro n hn
  obtain ⟨b1,b2,b3⟩:=qo n (sa h0 hn)
  have hb:(cB l n).1<l.length:=by omega
  have hlg:=h2 _ (bU l _ hb)
  simp only [go_sem]
  (repeat' first
|(with_reducible refine AR.f ?_)
|refine ap (by decide) ?_
|(with_reducible refine AWP.cond rfl ?_ ?_<;>intro hc<;>(try simp only [hcs,beq_iff_eq,ge_iff_le,gt_iff_lt] at hc))
|((first|((first|(with_reducible first|refine zR ?_|refine zQ (by decide +kernel) ?_|refine zD (by decide +kernel) ?_|refine zE (by decide +kernel) ?_|refine zG (by decide +kernel) ?_));intro K hK)|((first|(with_reducible refine aunder_i ?_ ?_<;>intro hg)|with_reducible intro hg)<;>(first|(exfalso;simp at hg;done)|(have hg':=hg;(try simp only [hcs,beq_iff_eq,ge_iff_le,gt_iff_lt] at hg');(try simp only [hg])))))<;>(try simp (disch:=omega) only [go_sem,aa,dW])<;>(repeat' with_reducible refine And.intro ?_ ?_)<;>(try (with_reducible refine hK _ ?_;clear hK K)))
|omega)
  ·have hlg2:=h2 _ (bU l _ hc)
   have:=Gn (az (l.getD n default).log)
   (repeat' first
|(with_reducible refine AR.f ?_)
|refine ap (by decide) ?_
|(with_reducible refine AWP.cond rfl ?_ ?_<;>intro hc<;>(try simp only [hcs,beq_iff_eq,ge_iff_le,gt_iff_lt] at hc))
|((first|((first|(with_reducible first|refine zR ?_|refine zQ (by decide +kernel) ?_|refine zD (by decide +kernel) ?_|refine zE (by decide +kernel) ?_|refine zG (by decide +kernel) ?_));intro K hK)|((first|refine acallH_sc (ahead_c _ _ hlg2 hlg) rfl rfl ?_ ?_ ?_|refine acallQ_sc (ahead_c _ _ hlg2 hlg) rfl rfl ?_ ?_ ?_|refine acallH_sc (last_c _ hlg2) rfl rfl ?_ ?_ ?_|refine acallQ_sc (last_c _ hlg2) rfl rfl ?_ ?_ ?_|refine acallH_sc (epoch_c _) rfl rfl ?_ ?_ ?_|refine acallQ_sc (epoch_c _) rfl rfl ?_ ?_ ?_);iterate 2 (focus ((try simp (disch:=omega) only [go_sem,aa])<;>(try omega)<;>fail)))|((first|refine zX (ahead_c _ _ hlg2 hlg) rfl ?_ ?_|refine zX (last_c _ hlg2) rfl ?_ ?_|refine zX (epoch_c _) rfl ?_ ?_);(focus ((try simp (disch:=omega) only [go_sem,aa])<;>(try omega)<;>fail)))|((first|(with_reducible refine aunder_i ?_ ?_<;>intro hg)|with_reducible intro hg)<;>(first|(exfalso;simp at hg;done)|(have hg':=hg;(try simp only [hcs,beq_iff_eq,ge_iff_le,gt_iff_lt] at hg');(try simp only [hg])))))<;>(try simp (disch:=omega) only [go_sem,aa])<;>(repeat' with_reducible refine And.intro ?_ ?_)<;>(try (with_reducible refine hK _ ?_;clear hK K)))
|omega)
   ·refine ⟨n+1,by omega,by omega,?_⟩
    (refine zV [] rfl rfl rfl rfl ?_ ?_<;>simp (disch:=omega) only [go_sem,aa,Int.natCast_add,cB,mx,hc]<;>(try rfl))
   ·refine ⟨n+1,by omega,by omega,?_⟩
    (refine zV [] rfl rfl rfl rfl ?_ ?_<;>simp (disch:=omega) only [go_sem,aa,Int.natCast_add,cB,mx,hc]<;>(try rfl))
  ·have e:n=l.length:=by omega
   subst e
   unfold bT
   rw [if_pos h0,if_neg (by omega),if_pos hc]
   exact zEe @qr.eq_1
  ·have e:n=l.length:=by omega
   subst e
   unfold bT
   rw [if_pos h0,if_neg (by omega),if_neg (by omega)]
   exact zEe @qr.eq_1
open Go Go.Shelf
def uH:Go.Shelf.Ren:=⟨fun|171=>260|243=>271|246=>274|283=>275|284=>276|285=>277|286=>278|129=>280|317=>279|318=>281|319=>282|320=>283|337=>284|338=>285|n=>n,fun|3=>3|9=>9|2=>2|4=>4|171=>284|0=>0|53=>285|37=>239|5=>5|173=>288|212=>291|51=>267|20=>20|213=>292|46=>172|232=>295|233=>296|n=>n,fun|17=>3|18=>4|19=>5|n=>n⟩
theorem Ej:Go.Proofs.LaysM.n171 Tryz.prog uH:={
 mixed:=by kernel_rfl
 f129:=Tryz.func280.trans (congrArg some (by kernel_rfl))
 f171:=Tryz.func260.trans (congrArg some (by kernel_rfl))
 f243:=Tryz.func271.trans (congrArg some (by kernel_rfl))
 f246:=Tryz.func274.trans (congrArg some (by kernel_rfl))
 f283:=Tryz.func275.trans (congrArg some (by kernel_rfl))
 f284:=Tryz.func276.trans (congrArg some (by kernel_rfl))
 f285:=Tryz.func277.trans (congrArg some (by kernel_rfl))
 f286:=Tryz.func278.trans (congrArg some (by kernel_rfl))
 f317:=Tryz.func279.trans (congrArg some (by kernel_rfl))
 f318:=Tryz.func281.trans (congrArg some (by kernel_rfl))
 f319:=Tryz.func282.trans (congrArg some (by kernel_rfl))
 f320:=Tryz.func283.trans (congrArg some (by kernel_rfl))
 f337:=Tryz.func284.trans (congrArg some (by kernel_rfl))
 f338:=Tryz.func285.trans (congrArg some (by kernel_rfl))
 t0:=Tryz.underlying0
 a0:=Tryz.isAgg0
 z0:=Tryz.sizeOf0
 v0:=Tryz.zeroValue0
 t2:=Tryz.underlying2
 a2:=Tryz.isAgg2
 z2:=Tryz.sizeOf2
 v2:=Tryz.zeroValue2
 t3:=Tryz.underlying3
 a3:=Tryz.isAgg3
 z3:=Tryz.sizeOf3
 v3:=Tryz.zeroValue3
 t4:=Tryz.underlying4
 a4:=Tryz.isAgg4
 z4:=Tryz.sizeOf4
 v4:=Tryz.zeroValue4
 t5:=Tryz.underlying5
 a5:=Tryz.isAgg5
 z5:=Tryz.sizeOf5
 v5:=Tryz.zeroValue5
 t9:=Tryz.underlying9
 a9:=Tryz.isAgg9
 z9:=Tryz.sizeOf9
 v9:=Tryz.zeroValue9
 t20:=Tryz.underlying20
 a20:=Tryz.isAgg20
 z20:=Tryz.sizeOf20
 v20:=Tryz.zeroValue20
 t37:=Tryz.underlying239
 a37:=Tryz.isAgg239
 z37:=Tryz.sizeOf239
 v37:=Tryz.zeroValue239
 t46:=Tryz.underlying172
 a46:=Tryz.isAgg172
 z46:=Tryz.sizeOf172
 v46:=Tryz.zeroValue172
 t51:=Tryz.underlying267
 a51:=Tryz.isAgg267
 z51:=Tryz.sizeOf267
 v51:=Tryz.zeroValue267
 t53:=Tryz.underlying285
 a53:=Tryz.isAgg285
 z53:=Tryz.sizeOf285
 v53:=Tryz.zeroValue285
 t171:=Tryz.underlying284
 a171:=Tryz.isAgg284
 z171:=Tryz.sizeOf284
 v171:=Tryz.zeroValue284
 t173:=Tryz.underlying288
 a173:=Tryz.isAgg288
 z173:=Tryz.sizeOf288
 v173:=Tryz.zeroValue288
 t212:=Tryz.underlying291
 a212:=Tryz.isAgg291
 z212:=Tryz.sizeOf291
 v212:=Tryz.zeroValue291
 t213:=Tryz.underlying292
 a213:=Tryz.isAgg292
 z213:=Tryz.sizeOf292
 t232:=Tryz.underlying295
 a232:=Tryz.isAgg295
 z232:=Tryz.sizeOf295
 v232:=Tryz.zeroValue295
 t233:=Tryz.underlying296
 a233:=Tryz.isAgg296
 z233:=Tryz.sizeOf296
 v233:=Tryz.zeroValue296
 g17:=by kernel_rfl
 g18:=by kernel_rfl
 g19:=by kernel_rfl
 i0:=by kernel_rfl
 i2:=by kernel_rfl
 i3:=by kernel_rfl
 i4:=by kernel_rfl
 i5:=by kernel_rfl
 i9:=by kernel_rfl
 i20:=by kernel_rfl
 i37:=by kernel_rfl
 i46:=by kernel_rfl
 i51:=by kernel_rfl
 i53:=by kernel_rfl
 i171:=by kernel_rfl
 i173:=by kernel_rfl
 i212:=by kernel_rfl
 i232:=by kernel_rfl
 i233:=by kernel_rfl
 m17:=by kernel_rfl
 m18:=by kernel_rfl
 m19:=by kernel_rfl }
theorem Kv {w:World} (ht:d7 w) {nm:String} {g:Nat} (hg:Tryz.prog.globalNamed nm=some g) (hm:(g,Lib.pow10Tab.map fun z=>Value.int .u64 z)∈Hv):Lib.TabIs Tryz.prog w nm .u64 Lib.pow10Tab:=by
 obtain ⟨ty,fz,h⟩:=ht _ hm
 unfold Lib.TabIs World.var?
 rw [hg,Option.bind_some]
 simp only [h]
theorem y6 (w:World) (k:Nat) (os:Array Obj):Below w.heap.size w (Sort.grow (w.drewN k) os):=
 ⟨rfl,rfl,rfl,by rw [Sort.size_grow];exact Nat.le_add_right _ _,fun i hi=>Sort.heap_grow_old _ _ hi⟩
theorem FA (n:Int) (h:okI n):ab Tryz.prog [] 260 [I n] (ret (S (Lib.itoa n))):=
 kj ⟨_,Tryz.func260,by kernel_rfl,by kernel_rfl⟩ rfl rfl fun w ht=>
  (Any.strconv_Itoa Ej n h.1 h.2 w (Kv ht (g:=3) (by kernel_rfl) (List.mem_cons_self ..))).mono fun e w' hh=>by
   obtain ⟨h1,k,os,h2⟩:=hh
   subst h2
   exact ⟨h1,y6 w k os⟩
def AG (z:Int):List UInt8×Int:=if bR z then (fm z,0) else ([],3)
theorem xm {n:Int} (h:0≤n):Lib.itoa n=Lib.decDigits n.toNat:=by unfold Lib.itoa;rw [if_neg (by omega)]
theorem wn {z:Int} (h:bR z):okI (epZ z)∧okI (coZ z)∧Lib.itoa (epZ z)=Lib.decDigits (z/2147483648).toNat∧Lib.itoa (coZ z)=Lib.decDigits (z%2147483648).toNat∧(Lib.decDigits (z/2147483648).toNat).length≤10∧(Lib.decDigits (z%2147483648).toNat).length≤10:=by
 have h':=h
 unfold bR at h'
 have e1:epZ z=z/2147483648:=by unfold epZ;rw [if_pos h]
 have e2:coZ z=z%2147483648:=by unfold coZ;rw [if_pos h]
 rw [e1,e2]
 refine ⟨⟨by omega,by omega⟩,⟨by omega,by omega⟩,xm (by omega),xm (by omega),ny _ 9 (by omega),ny _ 9 (by omega)⟩
theorem Nw (z:Int):ab Tryz.prog [] 236 [I z] (ret (.tup [S (AG z).1,I (AG z).2])):=by
 unfold AG
 by_cases h:bR z
 ·rw [if_pos h]
  obtain ⟨a,b,c,d,e,f⟩:=wn h
  have i1:=FA _ a
  have i2:=FA _ b
  rw [c] at i1
  rw [d] at i2
  refine zJ Tryz.func236 Tryz.ntmps236 Tryz.results236 ?_;simp only [go_sem]
  (refine zW qw (zc (zgood_c z) (z4 (epoch_c z) (pP z) i1 i2)) trivial (z2 ?_ ?_)<;>(repeat with_reducible intro hc))
  all_goals first|(exfalso;exact absurd h (by assumption))|skip
  all_goals exact zEe (zx @fm.eq_1 (zx @List.append_assoc.{0} (zx @List.cons_append.{0} @List.nil_append.{0})))
 ·rw [if_neg h]
  refine zJ Tryz.func236 Tryz.ntmps236 Tryz.results236 ?_;simp only [go_sem]
  (repeat' first
|(with_reducible refine AR.f ?_)
|refine ap (by decide) ?_
|(with_reducible refine AWP.cond rfl ?_ ?_<;>intro hc<;>(try simp only [hcs,beq_iff_eq,ge_iff_le,gt_iff_lt] at hc))
|((first|((first|(with_reducible first|refine zR ?_|refine zQ (by decide +kernel) ?_|refine zD (by decide +kernel) ?_|refine zE (by decide +kernel) ?_|refine zG (by decide +kernel) ?_));intro K hK)|((first|refine zA (zgood_c z) ?_ ?_ ?_ ?_ ?_);(focus exact rfl);(focus exact rfl);iterate 2 (focus ((try simp (disch:=omega) only [go_sem,aa])<;>(try omega)<;>fail)))|((first|refine zX (zgood_c z) rfl ?_ ?_);(focus ((try simp (disch:=omega) only [go_sem,aa])<;>(try omega)<;>fail)))|((first|(with_reducible refine aunder_i ?_ ?_<;>intro hg)|with_reducible intro hg)<;>(first|(exfalso;simp at hg;done)|(have hg':=hg;(try simp only [hcs,beq_iff_eq,ge_iff_le,gt_iff_lt] at hg');(try simp only [hg])))))<;>(try simp (disch:=omega) only [go_sem,aa])<;>(repeat' with_reducible refine And.intro ?_ ?_)<;>(try (with_reducible refine hK _ ?_;clear hK K)))
|omega)
  all_goals first|(exfalso;exact absurd (by assumption) h)|skip
  all_goals exact zEe trivial
structure CSt where
 t:ATree
 w:List AWatch
 n:List ANote
def jS (q:ATree×List AEvent×Int) (p:CSt) (x:ATxn):CSt:=⟨q.1,if x.op=2 then jR (dP p.w q.2.1).2 x.session else (dP p.w q.2.1).2,p.n++(dP p.w q.2.1).1⟩
def iM:List ATxn→CSt→CSt×Int
 |[],p=>(p,0)
 |x::r,p=>if (ar p.t x).2.2=0 then iM r (jS (ar p.t x) p x) else (p,(ar p.t x).2.2)
def ax (s:AServer) (n:Int):AServer×List ANote×Int:=
 if s.peer.done<0∨n<s.peer.done∨s.peer.log.length<n then (default,[],3) else
 let q:=iM ((s.peer.log.drop s.peer.done.toNat).take (n.toNat-s.peer.done.toNat)) ⟨s.tree,s.watches,[]⟩
 if q.2=0 then (⟨s.up,s.disk,⟨s.peer.id,s.peer.epoch,s.peer.log,n⟩,q.1.t,q.1.w⟩,q.1.n,0) else (default,[],q.2)
theorem oJ {x:ATxn} {r:List ATxn} {p:CSt} (h:(ar p.t x).2.2=0):iM (x::r) p=iM r (jS (ar p.t x) p x):=by rw [iM,if_pos h]
theorem tW {x:ATxn} {r:List ATxn} {p:CSt} (h:¬ (ar p.t x).2.2=0):iM (x::r) p=(p,(ar p.t x).2.2):=by rw [iM,if_neg h]
theorem Fq (l:List AWatch) (s:Int):(jR l s).length≤l.length:=List.length_filter_le _ _
theorem sL (q:ATree×List AEvent×Int) (p:CSt) (x:ATxn):(jS q p x).n.length+(jS q p x).w.length≤p.n.length+p.w.length:=by
 have h:=nf p.w q.2.1
 unfold jS
 simp only [List.length_append]
 split
 ·have:=Fq (dP p.w q.2.1).2 x.session;omega
 ·omega
theorem CE (l:List ATxn) (k:Nat) (h:k<l.length):l.drop k=l.getD k default::l.drop (k+1):=by
 rw [List.drop_eq_getElem_cons h,List.getD_eq_getElem?_getD,List.getElem?_eq_getElem h];rfl
theorem xD {p:CSt} {x:ATxn} (h:okT p.t) (hx:x.wf) (hp:x.path.length≤1048576):okT (jS (ar p.t x) p x).t:=BT h hx hp
set_option maxHeartbeats 8000000 in
theorem xH (s:AServer) (n:Int) (hw:s.wf) (ht:okT s.tree) (hx:∀ x,x∈s.peer.log→x.path.length≤1048576):ab Tryz.prog [] 115 [s.av,I n] (ret (.tup [(ax s n).1.av,.d (.sl 3 ((ax s n).2.1.map ANote.row)),I (ax s n).2.2])):=by
 obtain ⟨_,h1,h2,h3,h4⟩:=hw
 have hl7:=h2.2.2.1.1
 by_cases hb:s.peer.done<0∨n<s.peer.done∨s.peer.log.length<n
 ·unfold ax;rw [if_pos hb]
  refine zJ Tryz.func115 Tryz.ntmps115 Tryz.results115 ?_;simp only [go_sem]
  (refine zW qw zn trivial (z1 ?_)<;>(repeat with_reducible intro hc))
  all_goals first|(exfalso;omega)|skip
  all_goals exact zEe dfl
 unfold ax;rw [if_neg hb]
 have hd0:0≤s.peer.done:=by omega
 have q1:(s.peer.done:Int)=((s.peer.done.toNat:Nat):Int):=by omega
 have q2:n=((n.toNat:Nat):Int):=by omega
 have q3:s.peer.done.toNat≤n.toNat:=by omega
 have q4:n.toNat≤s.peer.log.length:=by omega
 have hX:∀ x,x∈(s.peer.log.drop s.peer.done.toNat).take (n.toNat-s.peer.done.toNat)→x.wf∧x.path.length≤1048576:=fun x hm=>by
  have hm2:=List.mem_of_mem_drop (List.mem_of_mem_take hm)
  exact ⟨h2.2.2.1.2 x hm2,hx x hm2⟩
 have hXl:((s.peer.log.drop s.peer.done.toNat).take (n.toNat-s.peer.done.toNat)).length=n.toNat-s.peer.done.toNat:=by rw [List.length_take,List.length_drop];omega
 have hXe:List.take (n.toNat-s.peer.done.toNat) (List.drop s.peer.done.toNat (s.peer.log.map ATxn.row))=((s.peer.log.drop s.peer.done.toNat).take (n.toNat-s.peer.done.toNat)).map ATxn.row:=by rw [List.map_take,List.map_drop]
 generalize (s.peer.log.drop s.peer.done.toNat).take (n.toNat-s.peer.done.toNat)=X at hX hXl hXe ⊢
 generalize hF:iM X ⟨s.tree,s.watches,[]⟩=F
 simp only
 refine zJ Tryz.func115 Tryz.ntmps115 Tryz.results115 ?_;simp only [go_sem]
 (refine zW qw zn @hXe (z1 ?_)<;>(repeat with_reducible intro hc))
 all_goals first|(exfalso;omega)|skip
 refine AWP.weaken (aM.nilOwn 7 3 rfl) ?_
 simp only [go_sem]
 refine AWP.loopB (ι:=Nat×CSt) (fun v=>v.1≤X.length∧iM (X.drop v.1) v.2=F∧okT v.2.t∧v.2.n.length+v.2.w.length≤s.watches.length) (fun v=>X.length-v.1) [1,42,43] (fun v=>[(2,.ptr 0 0),(4,.ptr 1 0),(7,.osl 2 3 0 v.2.n.length),(44,I v.1)]) (fun v=>[.cells [B s.up,.d (.sl 3 (s.disk.files.map AFile.row)),I s.peer.id,I s.peer.epoch,.d (.sl 7 (s.peer.log.map ATxn.row)),I s.peer.done,I v.2.t.zxid,.d (.sl 9 (v.2.t.nodes.map ANode.row)),.d (.sl 1 (v.2.t.sessions.map cU)),.d (.sl 3 (v.2.w.map AWatch.row))],.cells [B false,.d (.sc (.slice none 0 0)),I 0,I 0,.d (.sc (.slice none 0 0)),I 0,I 0,.d (.sc (.slice none 0 0)),.d (.sc (.slice none 0 0)),.d (.sc (.slice none 0 0))],.rows 3 (v.2.n.map ANote.row)]) (0,⟨s.tree,s.watches,[]⟩) ?_ ?_ ?_
 ·exact ⟨Nat.zero_le _,hF,ht,by simp⟩
 ·simp only [go_sem];exact zSm trivial
 intro ⟨k,p⟩ ⟨hk,hr,hok,hlen⟩
 simp only at hk hr hok hlen
 simp only [go_sem]
 by_cases hk2:k<X.length
 case neg=>
  have hke:k=X.length:=by omega
  subst hke
  rw [List.drop_length] at hr
  subst hr
  simp only [iM,if_true]
  have t1:List.take p.n.length (p.n.map ANote.row)=p.n.map ANote.row:=List.take_of_length_le (by simp)
  (refine zW qw zn @t1 (z1 ?_)<;>(repeat with_reducible intro hc))
  all_goals exact zEe @t1
 obtain ⟨x1,x2⟩:=hX _ (cp X default hk2)
 rw [CE X k hk2] at hr
 have hrow:∀ z,List.getD (List.map ATxn.row X) k z=(X.getD k default).row:=fun z=>ATxn.rgetD X k z hk2
 generalize X.getD k default=x at hr x1 x2 hrow
 have hok2:=xD hok x1 x2
 have hev:=FN (t:=p.t) (x:=x)
 have ha:=gi p.t x hok.1 x1.2.2.2.1 x1.2.2.2.2.1
 have hwl:p.w.length*32≤140737488351232:=by have:=h4.1;omega
 by_cases he:(ar p.t x).2.2=0
 case neg=>
  rw [tW he] at hr
  subst hr
  generalize ar p.t x=q at he ha
  obtain ⟨a,es,e⟩:=q
  simp only at he ha
  simp only [if_neg he]
  (refine zW qw (z1 ha) (zx @hrow @ATxn.row.eq_1) (z1 ?_)<;>(repeat with_reducible intro hc))
  all_goals first|exact absurd hc he|skip
  all_goals exact zEe dfl
 rw [oJ he] at hr
 generalize ar p.t x=q at he ha hr hok2 hev
 obtain ⟨a,es,e⟩:=q
 simp only at he ha hev
 subst he
 have hnl:=sL (a,es,0) p x
 have hf:=K3 p.w es hwl (by omega)
 have hfl:=nf p.w es
 have hdr:=Ky (dP p.w es).2 x.session (by omega)
 have hnx:jS (a,es,0) p x=⟨a,if x.op=2 then jR (dP p.w es).2 x.session else (dP p.w es).2,p.n++(dP p.w es).1⟩:=rfl
 generalize dP p.w es=f at hf hfl hdr hnx
 obtain ⟨fn,fl⟩:=f
 simp only at hf hfl hdr hnx
 have t1:List.take p.n.length (p.n.map ANote.row)=p.n.map ANote.row:=List.take_of_length_le (by simp)
 (refine zW qw (z3 ha hf hdr) (zx @hrow (zx @ATxn.row.eq_1 @t1)) (z2 ?_ ?_)<;>(repeat with_reducible intro hc))
 ·refine ⟨(k+1,jS (a,es,0) p x),⟨by simp only;omega,hr,hok2,by simp only;omega⟩,by simp only;omega,?_⟩
  rw [hnx]
  simp only [if_pos hc]
  exact zFr [0,1,5] (zx @t1 (zx @List.map_append.{0,0} @List.length_append.{0}))
 ·refine ⟨(k+1,jS (a,es,0) p x),⟨by simp only;omega,hr,hok2,by simp only;omega⟩,by simp only;omega,?_⟩
  rw [hnx]
  simp only [if_neg hc]
  exact zFr [0,1,5] (zx @t1 (zx @List.map_append.{0,0} @List.length_append.{0}))
end Go.Proofs.YtjcooccnfkfjhaaGreatDoor
