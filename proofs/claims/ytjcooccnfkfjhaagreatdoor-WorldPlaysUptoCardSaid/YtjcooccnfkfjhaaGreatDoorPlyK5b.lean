/- What the law leans on. No condition. -/
import Derived.Test.YtjcooccnfkfjhaaGreatDoorPlyK5
namespace Go.Proofs.YtjcooccnfkfjhaaGreatDoor
set_option maxHeartbeats 8000000
set_option linter.unusedVariables false
set_option linter.unusedSimpArgs false
open Go Go.RowKit Tryz
set_option maxRecDepth 100000
theorem BD(t:XW)(z:Int)(r:XY)(ht:okT t)(hr:r.wf)(hp:r.path.length≤1048576)(hz:okI z)(hq:gf t z r)(o:r.op=3):ab prog [] 102 [t.av,I z,r.av] (ret (.tup [(bA t z r).1.av,I (bA t z r).2])):=by
 have hgc:=(cA t ht.1 ht.2).re (congrArg B hq.1);have hzc:=(ref_zgood_c z hz).re (congrArg B (decide_eq_true hq.2.1));obtain⟨hs1,hs2⟩:=hq.2.2;have hri:=aE hq.1;have hrs:=gh hq.1;obtain⟨sl1,sl2⟩:=rC r.path;have hcv:=(EO ht.1 (splitP r.path).1.1).2.2.2.2.2.2.1;have hsr:=Eu (splitP r.path).1.2 (aw t (splitP r.path).1.1).1.stat.cversion;have hx:=K9 (t:=t) (z:=z) (r:=r) o;have hcc:=vD t r;have m0:Int.tmod 0 2=0:=by decide
 have m1:Int.tmod 1 2=1:=by decide
 have m2:Int.tmod 2 2=0:=by decide
 have m3:Int.tmod 3 2=1:=by decide
 have b1:bits .and .i64 0 2=0:=by decide +kernel
 have b2:bits .and .i64 1 2=0:=by decide +kernel
 have b3:bits .and .i64 2 2=2:=by decide +kernel
 have b4:bits .and .i64 3 2=2:=by decide +kernel
 have b5:bits .and .i64 0 1=0:=by decide +kernel
 have b6:bits .and .i64 1 1=1:=by decide +kernel
 have b7:bits .and .i64 2 1=0:=by decide +kernel
 have b8:bits .and .i64 3 1=1:=by decide +kernel
 rcases hcc with⟨h,e⟩|⟨h,h2,e⟩|⟨h,h2,h3,e⟩|⟨h,h2,h3,e⟩|⟨h,h2,h3,h4,e⟩|⟨h,h2,h3,h4,h5,e⟩|⟨h,h2,h3,h4,h5,h6,e⟩|⟨h,h2,h3,h4,h5,h6,e⟩
 ·skip
  rw[bG hq hx (by omega),e];refine zJ func102 ntmps102 results102 ?_;simp only[go_sem];refine zW qw (z3 yE hgc hzc) @o (z1 (fun hc hc hc hc hc hc hc=>?_))
  all_goals first|(exfalso;omega)|(exact zEf dfl;done)
 ·skip
  rw[bG hq hx (by omega),e];have hsp:=bC r.path hp;refine zJ func102 ntmps102 results102 ?_;simp only[go_sem];refine zW qw (z4 yE hgc hzc hsp) @o (z1 (fun hc hc hc hc hc hc hc hc=>?_))
  all_goals first|(exfalso;omega)|(exact zEf dfl;done)
 ·skip
  rw[bG hq hx (by omega),e];have hsp:=bC r.path hp;rw[h2] at hsp;have hop:=(isOpen_c t r.session ht.1.2.2.1).re (congrArg B (R0 h3));refine zJ func102 ntmps102 results102 ?_;simp only[go_sem];refine zW qw (zc yE (z4 hgc hzc hsp hop)) @o (z1 (fun hc hc hc hc hc hc hc hc hc=>?_))
  all_goals first|(exfalso;omega)|(exact zEf dfl;done)
 ·rw[e] at hx
  have hsp:=bC r.path hp;rw[h2] at hsp;have hop:=(isOpen_c t r.session ht.1.2.2.1).re (congrArg B (decide_eq_true h3));rcases h with h|h
  ·skip
   have hcp:kN t r=r.path:=by unfold kN;rw[RI (by omega)]
   have hco:kJ r=0:=by unfold kJ;rw[RI (by omega)]
   rw[hcp,hco] at hx;have hxw:=cV (z:=z) ht hr hp hz;rw[hx] at hxw;simp only at hxw;have ha:=dF t ⟨z,3,r.session,r.path,r.data,0,0⟩ ht.1 ht.2 hxw.1.1 hxw.2 hxw.1.2.2.2.2.1;rw[dR hq hx];generalize ah t ⟨z,3,r.session,r.path,r.data,0,0⟩=q at ha ⊢;obtain⟨a,es,e⟩:=q;simp only at ha ⊢;refine zJ func102 ntmps102 results102 ?_;simp only[go_sem]
   (refine zW qw (zc yE (zc hgc (z4 hzc hsp hop ha))) (zx @o (zx @h (zx @m0 (zx @m1 (zx @m2 @m3))))) (z2 ?_ ?_)<;>(repeat with_reducible intro hc))
   all_goals first
    |(exfalso;omega)
    |(rw[RJ (by omega)];exact zEf (zx @I.eq_1 @S.eq_1);done)
    |(rw[RI (by omega)];exact zEf dfl;done)
  ·skip
   have hcp:kN t r=r.path:=by unfold kN;rw[RI (by omega)]
   have hco:kJ r=r.session:=by unfold kJ;rw[RJ (by omega)]
   rw[hcp,hco] at hx;have hxw:=cV (z:=z) ht hr hp hz;rw[hx] at hxw;simp only at hxw;have ha:=dF t ⟨z,3,r.session,r.path,r.data,0,r.session⟩ ht.1 ht.2 hxw.1.1 hxw.2 hxw.1.2.2.2.2.1;rw[dR hq hx];generalize ah t ⟨z,3,r.session,r.path,r.data,0,r.session⟩=q at ha ⊢;obtain⟨a,es,e⟩:=q;simp only at ha ⊢;refine zJ func102 ntmps102 results102 ?_;simp only[go_sem]
   (refine zW qw (zc yE (zc hgc (z4 hzc hsp hop ha))) (zx @o (zx @h (zx @m0 (zx @m1 (zx @m2 @m3))))) (z2 ?_ ?_)<;>(repeat with_reducible intro hc))
   all_goals first
    |(exfalso;omega)
    |(rw[RJ (by omega)];exact zEf (zx @I.eq_1 @S.eq_1);done)
    |(rw[RI (by omega)];exact zEf dfl;done)
 ·skip
  rw[bG hq hx (by omega),e];have hsp:=bC r.path hp;rw[h2] at hsp;have hop:=(isOpen_c t r.session ht.1.2.2.1).re (congrArg B (decide_eq_true h3));have hgn:=ir t (splitP r.path).1.1 ht.1.2.1.1 hri;generalize (aw t (splitP r.path).1.1).2=e1 at h4 hgn ⊢;rcases h with h|h
  all_goals
   refine zJ func102 ntmps102 results102 ?_;simp only[go_sem]
   (repeat' first
|(with_reducible refine AR.f ?_)
|(with_reducible refine AWP.cond rfl ?_ ?_<;>intro hc<;>(try simp only[hcs,R1,Sa,Sb] at hc))
|((first|((first|refine zP ((XS [0,1,2,4] (.fork 3 (XS [5,6,7] .done) 5 (XS [3,6,7] .done)))) ?_|(with_reducible first|refine zR ?_));intro K hK)|((first|refine zA hgc ?_ ?_ ?_ ?_ ?_|refine zA hzc ?_ ?_ ?_ ?_ ?_|refine zA hsp ?_ ?_ ?_ ?_ ?_|refine zA hop ?_ ?_ ?_ ?_ ?_|refine zA hgn ?_ ?_ ?_ ?_ ?_);(focus exact rfl);(focus exact rfl);iterate 2 (focus((try simp(disch:=omega) only[go_sem,aa,o,h,m0,m1,m2,m3])<;>(try omega)<;>fail)))|((first|refine zN hgn rfl ?_ ?_|refine zX hgc rfl ?_ ?_|refine zX hzc rfl ?_ ?_|refine zX hsp rfl ?_ ?_|refine zX hop rfl ?_ ?_|refine zX hgn rfl ?_ ?_|refine zY hgn ?_ ?_);(focus((try simp(disch:=omega) only[go_sem,aa,o,h,m0,m1,m2,m3])<;>(try omega)<;>fail))))<;>(try simp(disch:=omega) only[go_sem,aa,o,h,m0,m1,m2,m3])<;>(repeat' with_reducible refine Su ?_ ?_)<;>(try(with_reducible refine hK _ ?_;clear hK K)))
|omega)
   all_goals first|(exfalso;omega)|(exact zEf dfl;done)
 ·skip
  rw[bG hq hx (by omega),e];have hsp:=bC r.path hp;rw[h2] at hsp;have hop:=(isOpen_c t r.session ht.1.2.2.1).re (congrArg B (decide_eq_true h3));have hgn:=ir t (splitP r.path).1.1 ht.1.2.1.1 hri;rw[h4] at hgn;have hse:=lu (splitP r.path).1.2 (aw t (splitP r.path).1.1).1.stat.cversion (by omega) hcv;generalize (dP (splitP r.path).1.2 (aw t (splitP r.path).1.1).1.stat.cversion).2=e1 at h5 hse ⊢;rcases h with h|h
  all_goals
   refine zJ func102 ntmps102 results102 ?_;simp only[go_sem]
   (refine zW qw (zc yE (zc hgc (zc hzc (z4 hsp hop hgn hse)))) (zx @o (zx @h (zx @m0 (zx @m1 (zx @m2 @m3))))) (z1 ?_)<;>(repeat with_reducible intro hc))
   all_goals first|(exfalso;omega)|(exact zEf dfl;done)
 ·skip
  rw[bG hq hx (by omega),e];have hsp:=bC r.path hp;rw[h2] at hsp;have hop:=(isOpen_c t r.session ht.1.2.2.1).re (congrArg B (decide_eq_true h3));have hgn:=ir t (splitP r.path).1.1 ht.1.2.1.1 hri;rw[h4] at hgn;have hse:=lu (splitP r.path).1.2 (aw t (splitP r.path).1.1).1.stat.cversion (by omega) hcv;rw[h5] at hse;have hjo:=tl (splitP r.path).1.1 (dP (splitP r.path).1.2 (aw t (splitP r.path).1.1).1.stat.cversion).1 (by omega) (by unfold okS;omega);generalize (df (splitP r.path).1.1 (dP (splitP r.path).1.2 (aw t (splitP r.path).1.1).1.stat.cversion).1).2=e1 at h6 hjo ⊢;rcases h with h|h
  all_goals
   refine zJ func102 ntmps102 results102 ?_;simp only[go_sem]
   (refine zW qw (zc yE (zc hgc (zc hzc (zc hsp (z4 hop hgn hse hjo))))) (zx @o (zx @h (zx @m0 (zx @m1 (zx @m2 @m3))))) (z1 ?_)<;>(repeat with_reducible intro hc))
   all_goals first|(exfalso;omega)|(exact zEf dfl;done)
 ·rw[e] at hx
  have hsp:=bC r.path hp;rw[h2] at hsp;have hop:=(isOpen_c t r.session ht.1.2.2.1).re (congrArg B (decide_eq_true h3));have hgn:=ir t (splitP r.path).1.1 ht.1.2.1.1 hri;rw[h4] at hgn;have hse:=lu (splitP r.path).1.2 (aw t (splitP r.path).1.1).1.stat.cversion (by omega) hcv;rw[h5] at hse;have hjo:=tl (splitP r.path).1.1 (dP (splitP r.path).1.2 (aw t (splitP r.path).1.1).1.stat.cversion).1 (by omega) (by unfold okS;omega);rw[h6] at hjo;rcases h with h|h
  ·skip
   have hcp:kN t r=(df (splitP r.path).1.1 (dP (splitP r.path).1.2 (aw t (splitP r.path).1.1).1.stat.cversion).1).1:=by unfold kN;rw[RJ (by omega)];rfl
   have hco:kJ r=0:=by unfold kJ;rw[RI (by omega)]
   rw[hcp,hco] at hx;have hxw:=cV (z:=z) ht hr hp hz;rw[hx] at hxw;simp only at hxw;have ha:=dF t ⟨z,3,r.session,(df (splitP r.path).1.1 (dP (splitP r.path).1.2 (aw t (splitP r.path).1.1).1.stat.cversion).1).1,r.data,0,0⟩ ht.1 ht.2 hxw.1.1 hxw.2 hxw.1.2.2.2.2.1;rw[dR hq hx];generalize ah t ⟨z,3,r.session,(df (splitP r.path).1.1 (dP (splitP r.path).1.2 (aw t (splitP r.path).1.1).1.stat.cversion).1).1,r.data,0,0⟩=q at ha ⊢;obtain⟨a,es,e⟩:=q;simp only at ha ⊢;refine zJ func102 ntmps102 results102 ?_;simp only[go_sem]
   (refine zW qw (zc yE (zc hgc (zc hzc (zc hsp (zc hop (z4 hgn hse hjo ha)))))) (zx @o (zx @h (zx @m0 (zx @m1 (zx @m2 @m3))))) (z2 ?_ ?_)<;>(repeat with_reducible intro hc))
   all_goals first
    |(exfalso;omega)
    |(rw[RJ (by omega)];exact zEf (zx @I.eq_1 @S.eq_1);done)
    |(rw[RI (by omega)];exact zEf dfl;done)
  ·skip
   have hcp:kN t r=(df (splitP r.path).1.1 (dP (splitP r.path).1.2 (aw t (splitP r.path).1.1).1.stat.cversion).1).1:=by unfold kN;rw[RJ (by omega)];rfl
   have hco:kJ r=r.session:=by unfold kJ;rw[RJ (by omega)]
   rw[hcp,hco] at hx;have hxw:=cV (z:=z) ht hr hp hz;rw[hx] at hxw;simp only at hxw;have ha:=dF t ⟨z,3,r.session,(df (splitP r.path).1.1 (dP (splitP r.path).1.2 (aw t (splitP r.path).1.1).1.stat.cversion).1).1,r.data,0,r.session⟩ ht.1 ht.2 hxw.1.1 hxw.2 hxw.1.2.2.2.2.1;rw[dR hq hx];generalize ah t ⟨z,3,r.session,(df (splitP r.path).1.1 (dP (splitP r.path).1.2 (aw t (splitP r.path).1.1).1.stat.cversion).1).1,r.data,0,r.session⟩=q at ha ⊢;obtain⟨a,es,e⟩:=q;simp only at ha ⊢;refine zJ func102 ntmps102 results102 ?_;simp only[go_sem]
   (refine zW qw (zc yE (zc hgc (zc hzc (zc hsp (zc hop (z4 hgn hse hjo ha)))))) (zx @o (zx @h (zx @m0 (zx @m1 (zx @m2 @m3))))) (z2 ?_ ?_)<;>(repeat with_reducible intro hc))
   all_goals first
    |(exfalso;omega)
    |(rw[RJ (by omega)];exact zEf (zx @I.eq_1 @S.eq_1);done)
    |(rw[RI (by omega)];exact zEf dfl;done)
theorem PP(t:XW)(z:Int)(r:XY)(ht:okT t)(hr:r.wf)(hp:r.path.length≤1048576)(hz:okI z):ab prog [] 105 [t.av,I z,r.av] (ret (.tup [(bA t z r).1.av,I (bA t z r).2])):=by
 by_cases hq:gf t z r
 case neg=>exact Mz t z r ht hr hp hz hq
 rcases(by omega:r.op=3∨r.op=4∨r.op=5∨r.op=1∨r.op=2∨¬ (1≤r.op∧r.op≤5)) with o|o|o|o
 ·exact Mr t z r ht hr hp hz hq o
 ·exact NG t z r ht hr hp hz hq o
 ·exact Mm t z r ht hr hp hz hq o
 ·exact NJ t z r ht hr hp hz hq o
theorem CA(t:XW)(z:Int)(r:XY)(ht:okT t)(hr:r.wf)(hp:r.path.length≤1048576)(hz:okI z):ab prog [] 102 [t.av,I z,r.av] (ret (.tup [(bA t z r).1.av,I (bA t z r).2])):=by
 by_cases hq:gf t z r
 case neg=>exact Bq t z r ht hr hp hz hq
 rcases(by omega:r.op=3∨r.op=4∨r.op=5∨r.op=1∨r.op=2∨¬ (1≤r.op∧r.op≤5)) with o|o|o|o
 ·exact BD t z r ht hr hp hz hq o
 ·exact Ci t z r ht hr hp hz hq o
 ·exact At t z r ht hr hp hz hq o
 ·exact Bn t z r ht hr hp hz hq o
theorem qWf0:Pls [XS [1] (.fork 0 (XS [2,3,4] .done) 2 (XS [0,3,4] .done))]:=pls _
attribute [go_sem] ntmps240 results240
theorem CJ{α:Type}(l:List α)(i:Nat)(d:α)(h:i<l.length):l.take (i+1)=l.take i++[l.getD i d]:=by rw[UX,RH h];simp[RG,h]
def ov(e:XZ)(w:AWatch):Bool:=if w.path=e.path then(if w.kind=2 then(decide (e.kind=4)||decide (e.kind=2)) else(decide (e.kind=1)||decide (e.kind=2)||decide (e.kind=3))) else false
def keptW(e:XZ)(l:List AWatch):List AWatch:=l.filter fun w=>!ov e w
def fL(e:XZ)(l:List AWatch):List XX:=(l.filter (ov e)).map fun w=>⟨w.session,e⟩
def mS(p:List XX×List AWatch)(e:XZ):List XX×List AWatch:=(p.1++fL e p.2,keptW e p.2)
def cC(l:List AWatch)(es:List XZ):List XX×List AWatch:=es.foldl mS ([],l)
theorem xF(l:List AWatch)(es:List XZ)(k:Nat)(h:k<es.length):cC l (es.take (k+1))=mS (cC l (es.take k)) (es.getD k default):=by have:es.take (k+1)=es.take k++[es.getD k default]:=aN es k h;unfold cC;rw[this,Tz];rfl
theorem qI(e:XZ)(l:List AWatch)(k:Nat)(h:k<l.length):keptW e (l.take (k+1))=if ov e (l.getD k default)=true then keptW e (l.take k) else keptW e (l.take k)++[l.getD k default]:=by
 have:l.take (k+1)=l.take k++[l.getD k default]:=aN l k h;unfold keptW;rw[this,SA];generalize l.getD k default=x
 split<;>rename_i hh<;>simp[hh]
theorem rf(e:XZ)(l:List AWatch)(k:Nat)(h:k<l.length):fL e (l.take (k+1))=if ov e (l.getD k default)=true then fL e (l.take k)++[⟨(l.getD k default).session,e⟩] else fL e (l.take k):=by
 have:l.take (k+1)=l.take k++[l.getD k default]:=aN l k h;unfold fL;rw[this,SA];generalize l.getD k default=x
 split<;>rename_i hh<;>simp[hh]
theorem qW(e:XZ)(l:List AWatch):(fL e l).length+(keptW e l).length=l.length:=by
 induction l with
 |nil=>rfl
 | cons x l ih=>
   unfold fL keptW at *
   cases hx:ov e x<;>simp[hx] at *<;>omega
theorem ju(l:List AWatch):∀(es:List XZ),(cC l es).1.length+(cC l es).2.length=l.length:=by
 have key:∀(es:List XZ) (p:List XX×List AWatch),(es.foldl mS p).1.length+(es.foldl mS p).2.length=p.1.length+p.2.length:=by
  intro es
  induction es with
  |nil=>intro p;rfl
  | cons e es ih=>
    intro p
    have:=qW e p.2;rw[Uu,ih];unfold mS;simp only[RL];omega
 intro es;have:=key es ([],l);simpa[cC] using this
theorem nF(w:AWatch)(e:XZ):ab prog [] 241 [w.av,e.av] (ret (B (ov e w))):=by
 unfold ov;refine zJ func241 ntmps241 results241 ?_;simp only[go_sem]
 (refine zW qw zn Yj (z3 ?_ ?_ ?_)<;>(repeat with_reducible intro hc))
 all_goals first
  |(rw[RI hc];exact zEf trivial;done)
  |(rw[RJ (by assumption),RJ (by assumption)];exact zEf trivial;done)
  |(rw[RJ (by assumption),RI (by assumption)];exact zEf trivial;done)
theorem yy(l:List AWatch)(h:l.length*32≤140737488351232):ab prog [] 238 [.d (.sl 3 (l.map AWatch.row))] (own 3 (l.map AWatch.row)):=by
 refine zJ func238 ntmps238 results238 ?_;simp only[go_sem]
 (repeat' first
|(with_reducible refine AR.f ?_)
|refine bH (by decide) ?_
|(with_reducible refine AWP.cond rfl ?_ ?_<;>intro hc<;>(try simp only[hcs,R1,Sa,Sb] at hc))
|((first|((first|(with_reducible first|refine zR ?_));intro K hK)|((first|(with_reducible refine aunder_i ?_ ?_<;>intro hg)|with_reducible intro hg)<;>(first|(exfalso;simp at hg;done)|(have hg':=hg;(try simp only[hcs,R1,Sa,Sb] at hg');(try simp only[hg])))))<;>(try simp(disch:=omega) only[go_sem,aa])<;>(repeat' with_reducible refine Su ?_ ?_)<;>(try(with_reducible refine hK _ ?_;clear hK K)))
|omega)
 ·have e:l.length=0:=by
   rcases TC l.length with h0|h0
   ·exact h0
   ·rw[hg h0] at hc;simp at hc
  rw[gU e]
  (refine m6 (by first|exact .inl rfl|exact .inr rfl) rfl ?_ ?_<;>simp(disch:=omega) only[go_sem,aa])
 ·(refine mI 1 (by first|exact .inl rfl|exact .inr rfl) rfl ?_ rfl rfl ?_<;>(try simp(disch:=omega) only[go_sem,aa,RO]))
theorem xV(e:XZ)(l:List AWatch)(i:Nat)(h:∀ j,j<i→ov e (l.getD j default)=false)(hi:i≤l.length):keptW e (l.take i)=l.take i∧fL e (l.take i)=[]:=by
 have hf:∀ x,x∈l.take i→ov e x=false:=fun x hx=>by
  obtain⟨j,hj,rfl⟩:=Tm hx;rw[RV] at hj
  have:=h j (by omega);rw[RG,RH (by omega)] at this;rw[UY];exact this
 constructor
 ·unfold keptW;exact SU.2 fun x hx=>by rw[hf x hx];rfl
 ·unfold fL;rw[TH.2 fun x hx=>by rw[hf x hx];decide];rfl
theorem M8(l:List AWatch)(h:l.length*32≤140737488351232):ab prog [] 242 [.d (.sl 3 (l.map AWatch.row))] (ret (.d (.sl 3 (l.map AWatch.row)))):=by
 have t2:List.take l.length (l.map AWatch.row)=l.map AWatch.row:=RK (by simp);rcases TC l.length with h0|h0
 ·rw[gU h0]
  refine zJ func242 ntmps242 results242 ?_;simp only[go_sem]
  (refine zW qw zn Yj (z1 ?_)<;>(repeat with_reducible intro hc))
  all_goals exact zEe Yj
 have e0:¬ ((l.length:Nat):Int)=0:=by omega
 refine zJ func242 ntmps242 results242 ?_;simp only[go_sem]
 (refine zW qw zn (zx @t2 (zx @Sg @e0)) (z1 ?_)<;>(repeat with_reducible intro hc))
 all_goals exact zEe (zx @t2 (zx @Sg @e0))
theorem O5(l:List AWatch)(es:List XZ)(h:l.length*32≤140737488351232)(he:es.length*24≤140737488351232):ab prog [] 185 [.d (.sl 3 (l.map AWatch.row)),.d (.sl 2 (es.map XZ.row))]
  (ret (.tup [.d (.sl 3 ((cC l es).1.map XX.row)),.d (.sl 3 ((cC l es).2.map AWatch.row))])):=by
 refine zJ func185 ntmps185 results185 ?_;simp only[go_sem]
 (refine zW qw (z1 (yy l h)) Yj (z1 ?_)<;>(repeat with_reducible intro hc))
 refine Xa (Xl 1 0 3 rfl rfl) ?_;simp only[go_sem];refine W9 (ι:=Nat) (fun k=>k≤es.length) (fun k=>es.length-k) [12,13] (fun k=>[(6,.osl 0 3 0 (cC l (es.take k)).2.length),(7,.ptr 1 0),(14,I k)]) (fun k=>[.rows 3 ((cC l (es.take k)).2.map AWatch.row),.cells [.osl 2 3 0 (cC l (es.take k)).1.length],.rows 3 ((cC l (es.take k)).1.map XX.row)]) 0 ?_ ?_ ?_
 ·omega
 ·simp only[go_sem];exact zSm (zx @cC.eq_1 @List.foldl_nil.{0,0})
 intro k hk;simp only[go_sem]
 by_cases hk2:k<es.length
 case neg=>
  have hke:k=es.length:=by omega
  subst hke;rw[R7];generalize hpe:cC l es=p;obtain⟨ns,ws⟩:=p;have t1:List.take ns.length (ns.map XX.row)=ns.map XX.row:=RK (by simp);have t2:List.take ws.length (ws.map AWatch.row)=ws.map AWatch.row:=RK (by simp);have hcl:=M8 ws (by have:=ju l es;rw[hpe] at this;simp only at this;omega)
  (refine zW qw (z2 qWf0 hcl) (zx @t1 @t2) (z2 ?_ ?_)<;>(repeat with_reducible intro hc))
  all_goals exact zEe (zx @t1 @t2)
 have hs:=xF l es k hk2;have hl:=ju l (es.take k);generalize cC l (es.take k)=p at hs hl ⊢;obtain⟨ns,ws⟩:=p;simp only at hl ⊢
 (repeat' first
|(with_reducible refine AR.f ?_)
|(with_reducible refine AWP.cond rfl ?_ ?_<;>intro hc<;>(try simp only[hcs,R1,Sa,Sb] at hc))
|(refine bJ fun Kk hKk=>(cr dn func239 rfl (by kernel_rfl) (by simp[ntmps239]) ?_);simp only[ntmps239,results239,SK,gE,Sd,RQ,Nat.reduceAdd,RL,R3,go_sem])
|(refine bJ fun Kk hKk=>(cr dn func262 rfl (by kernel_rfl) (by simp[ntmps262]) ?_);simp only[ntmps262,results262,SK,gE,Sd,RQ,Nat.reduceAdd,RL,R3,go_sem])
|((first|((first|(with_reducible first|refine zR ?_));intro K hK)|(refine aend_in (v:=?_) hKk (by first|exact .inl rfl|exact .inr rfl) ?_ ?_ ?_;rotate_left;(focus((try simp(disch:=omega) only[go_sem,aa])<;>(try omega)<;>fail));(focus((try simp(disch:=omega) only[go_sem,aa])<;>(first|done|exact rfl)));clear hKk Kk))<;>(try simp(disch:=omega) only[go_sem,aa])<;>(repeat' with_reducible refine Su ?_ ?_)<;>(try(with_reducible refine hK _ ?_;clear hK K)))
|omega)
 generalize es.getD k default=e at hs ⊢;refine W9 (ι:=Nat) (fun i=>i≤ws.length∧∀ j,j<i→ov e (ws.getD j default)=false) (fun i=>ws.length-i) [0,1,7] (fun i=>[(8,I i)]) (fun i=>[.rows 3 (ws.map AWatch.row),.cells [.osl 2 3 0 ns.length],.rows 3 (ns.map XX.row),.cells [I e.kind,S e.path]]) 0 ?_ ?_ ?_
 ·exact⟨by omega,fun j hj=>by omega⟩
 ·simp only[go_sem];exact zSm Yj
 intro i ⟨hi,hi2⟩;simp only[go_sem]
 by_cases hi3:i<ws.length
 case neg=>
  have hie:i=ws.length:=by omega
  subst hie;obtain⟨q1,q2⟩:=xV e ws ws.length hi2 (RP _);rw[R7] at q1 q2
  (repeat' first
|(with_reducible refine AR.f ?_)
|(with_reducible refine AWP.cond rfl ?_ ?_<;>intro hc<;>(try simp only[hcs,R1,Sa,Sb] at hc))
|(refine bJ fun Kk hKk=>(cr dn func240 rfl (by kernel_rfl) (by simp[ntmps240]) ?_);simp only[ntmps240,results240,SK,gE,Sd,RQ,Nat.reduceAdd,RL,R3,go_sem])
|((first|((first|(with_reducible first|refine zR ?_));intro K hK)|(refine aend_in (v:=?_) hKk (by first|exact .inl rfl|exact .inr rfl) ?_ ?_ ?_;rotate_left;(focus((try simp(disch:=omega) only[go_sem,aa])<;>(try omega)<;>fail));(focus((try simp(disch:=omega) only[go_sem,aa])<;>(first|done|exact rfl)));clear hKk Kk))<;>(try simp(disch:=omega) only[go_sem,aa])<;>(repeat' with_reducible refine Su ?_ ?_)<;>(try(with_reducible refine hK _ ?_;clear hK K)))
|omega)
  refine Zq (k+1) ?_;rw[hs];simp only[mS,q1,q2,Se];exact zFr [0,1,2] Yj
 have hrw:∀ z,List.getD (List.map AWatch.row ws) i z=(ws.getD i default).row:=fun z=>AWatch.rgetD ws i z hi3
 by_cases hh:ov e (ws.getD i default)=true
 case neg=>
  have ht:=(nF (ws.getD i default) e).re (congrArg B (Tq hh))
  (refine zW qw (z2 (ic func240) ht) (zx @hrw @AWatch.row.eq_1) (z1 ?_)<;>(repeat with_reducible intro hc))
  refine⟨i+1,⟨by omega,fun j hj=>?_⟩,by omega,?_⟩
  ·by_cases ej:j=i
   ·subst ej;exact Tq hh
   ·exact hi2 j (by omega)
  exact zFr [0,1,2,3] Yj
 have ht:=(nF (ws.getD i default) e).re (congrArg B hh);obtain⟨q1,q2⟩:=xV e ws i hi2 hi;have hk0:keptW e (ws.take (i+1))=ws.take i:=by rw[qI e ws i hi3,RJ hh,q1]
 have ht0:fL e (ws.take (i+1))=[⟨(ws.getD i default).session,e⟩]:=by rw[rf e ws i hi3,RJ hh,q2];rfl
 have hmin:(ws.take i).length=i:=by rw[RV];omega
 (repeat' first
|(with_reducible refine AR.f ?_)
|(with_reducible refine AWP.cond rfl ?_ ?_<;>intro hc<;>(try simp only[hcs,R1,Sa,Sb] at hc))
|(refine bJ fun Kk hKk=>(cr dn func240 rfl (by kernel_rfl) (by simp[ntmps240]) ?_);simp only[ntmps240,results240,SK,gE,Sd,RQ,Nat.reduceAdd,RL,R3,go_sem])
|((first|((first|(with_reducible first|refine zR ?_));intro K hK)|((first|refine zA ht ?_ ?_ ?_ ?_ ?_);(focus exact rfl);(focus exact rfl);iterate 2 (focus((try simp(disch:=omega) only[go_sem,aa,hrw,AWatch.row])<;>(try omega)<;>fail)))|((first|refine zX ht rfl ?_ ?_);(focus((try simp(disch:=omega) only[go_sem,aa,hrw,AWatch.row])<;>(try omega)<;>fail)))|(refine aend_in (v:=?_) hKk (by first|exact .inl rfl|exact .inr rfl) ?_ ?_ ?_;rotate_left;(focus((try simp(disch:=omega) only[go_sem,aa,hrw,AWatch.row])<;>(try omega)<;>fail));(focus((try simp(disch:=omega) only[go_sem,aa,hrw,AWatch.row])<;>(first|done|exact rfl)));clear hKk Kk))<;>(try simp(disch:=omega) only[go_sem,aa,hrw,AWatch.row])<;>(repeat' with_reducible refine Su ?_ ?_)<;>(try(with_reducible refine hK _ ?_;clear hK K)))
|omega)
 refine W9 (ι:=Nat×List AWatch) (fun v=>i<v.1∧v.1≤ws.length∧v.2.length=ws.length∧v.2.take (keptW e (ws.take v.1)).length=keptW e (ws.take v.1)∧v.2.drop v.1=ws.drop v.1∧(keptW e (ws.take v.1)).length<v.1) (fun v=>ws.length-v.1) [0,1] (fun v=>[(5,I (keptW e (ws.take v.1)).length),(6,I v.1)]) (fun v=>[.rows 3 (v.2.map AWatch.row),.cells [.osl 4 3 0 (ns++fL e (ws.take v.1)).length],.dead,.cells [I e.kind,S e.path],.rows 3 ((ns++fL e (ws.take v.1)).map XX.row)]) (i+1,ws) ?_ ?_ ?_
 ·simp only[hk0,hmin]
  exact⟨by omega,by omega,Yj,Yj,Yj,by omega⟩
 ·simp only[go_sem,hk0,ht0,hmin];exact zFr [0,1,2,3,6] (zx @XX.row.eq_1 (zx @List.map_append.{0,0} (zx @List.map_cons.{0,0} @List.map_nil.{0,0})))
 intro⟨j,R⟩ ⟨j1,j2,r1,r2,r3,r4⟩;simp only at j1 j2 r1 r2 r3 r4;simp only[go_sem]
 by_cases hj3:j<ws.length
 ·have hRj:∀ z,List.getD (List.map AWatch.row R) j z=(ws.getD j default).row:=fun z=>by
   rw[AWatch.rgetD R j z (by omega)]
   have:(R.drop j).getD 0 default=(ws.drop j).getD 0 default:=by rw[r3]
   rw[RG,RG,SM,SM,S8] at this;rw[RG,RG,this]
  have hks:=qI e ws j hj3;have hts:=rf e ws j hj3;have hkl:=qW e (ws.take j);have htn:List.take (ns.length+(fL e (ws.take j)).length) (List.map XX.row (ns++fL e (ws.take j)))=List.map XX.row (ns++fL e (ws.take j)):=RK (by simp);rw[RV] at hkl
  by_cases hh2:ov e (ws.getD j default)=true
  ·have ht2:=(nF (ws.getD j default) e).re (congrArg B hh2)
   rw[RJ hh2] at hks hts
   (refine zW qw (z2 (ic func240) ht2) (zx @hRj (zx @AWatch.row.eq_1 (zx @r1 @htn))) (z1 ?_)<;>(repeat with_reducible intro hc))
   refine⟨(j+1,R),⟨by omega,by omega,r1,by simp only[hks];exact r2,?_,by simp only[hks];omega⟩,by simp only;omega,?_⟩
   ·simp only;rw[←SH,←SH,r3]
   simp only[hks,hts];exact zFr [0,1,2,3,8] (zx @XX.row.eq_1 (zx @List.map_append.{0,0} (zx @List.map_cons.{0,0} (zx @List.map_nil.{0,0} (zx @List.append_assoc.{0} @SX)))))
  have ht2:=(nF (ws.getD j default) e).re (congrArg B (Tq hh2));rw[RI hh2] at hks hts;have hcl:(keptW e (ws.take j)).length<R.length:=by omega
  (refine zW qw (z2 (ic func240) ht2) (zx @hRj (zx @AWatch.row.eq_1 @r1)) (z1 ?_)<;>(repeat with_reducible intro hc))
  refine⟨(j+1,R.set (keptW e (ws.take j)).length (ws.getD j default)),⟨by omega,by omega,by simp only[R3];exact r1,?_,?_,by simp only[hks,RL,Sv];omega⟩,by simp only;omega,?_⟩
  ·simp only[hks,RL,Sv]
   rw[CJ _ _ default (by rw[R3];exact hcl),List.take_set_of_le (RP _),r2];congr 1;rw[RG,TW hcl];rfl
  ·simp only
   rw[List.drop_set_of_lt (by omega),←SH,←SH,r3]
  simp only[hks,hts];exact zFr [0,1,2,3,4] (zx @AWatch.row.eq_1 (zx @List.map_set.{0,0} @List.length_append.{0}))
 have hje:j=ws.length:=by omega
 subst hje;rw[R7] at r2 r4 ⊢
 (repeat' first
|(with_reducible refine AR.f ?_)
|(with_reducible refine AWP.cond rfl ?_ ?_<;>intro hc<;>(try simp only[hcs,R1,Sa,Sb] at hc))
|(refine bJ fun Kk hKk=>(cr dn func240 rfl (by kernel_rfl) (by simp[ntmps240]) ?_);simp only[ntmps240,results240,SK,gE,Sd,RQ,Nat.reduceAdd,RL,R3,go_sem])
|((first|((first|(with_reducible first|refine zR ?_));intro K hK)|(refine aend_in (v:=?_) hKk (by first|exact .inl rfl|exact .inr rfl) ?_ ?_ ?_;rotate_left;(focus((try simp(disch:=omega) only[go_sem,aa,r1,r4])<;>(try omega)<;>fail));(focus((try simp(disch:=omega) only[go_sem,aa,r1,r4])<;>(first|done|exact rfl)));clear hKk Kk))<;>(try simp(disch:=omega) only[go_sem,aa,r1,r4])<;>(repeat' with_reducible refine Su ?_ ?_)<;>(try(with_reducible refine hK _ ?_;clear hK K)))
|omega)
 have htk:∀ X:List (List DV),List.take (keptW e ws).length (List.take (keptW e ws).length (List.map AWatch.row R)++X)=List.map AWatch.row (keptW e ws):=fun X=>by rw[Sm (by rw[RV,RO];omega),TU,VQ,←Vb,r2]
 refine⟨k+1,by omega,by omega,ax.trans (ax.tail 0 (keptW e ws).length rfl) ?_⟩;rw[hs];simp only[mS,Sq];exact zFr [0,1,4] @htk
theorem CP(l:List AWatch)(es:List XZ)(h:l.length*32≤140737488351232)(he:es.length*24≤140737488351232):ab prog [] 158 [.d (.sl 3 (l.map AWatch.row)),.d (.sl 2 (es.map XZ.row))]
  (ret (.tup [.d (.sl 3 ((cC l es).1.map XX.row)),.d (.sl 3 ((cC l es).2.map AWatch.row))])):=by
 refine zJ func158 ntmps158 results158 ?_;simp only[go_sem]
 (refine zW qw zn Yj (z1 ?_)<;>(repeat with_reducible intro hc))
 refine Xa (Xf 6 3 rfl) ?_;simp only[go_sem];refine W9 (ι:=Nat) (fun k=>k≤es.length) (fun k=>es.length-k) [14,15] (fun k=>[(0,.d (.sl 3 ((cC l (es.take k)).2.map AWatch.row))),(6,.osl 0 3 0 (cC l (es.take k)).1.length),(16,I k)]) (fun k=>[.rows 3 ((cC l (es.take k)).1.map XX.row)]) 0 ?_ ?_ ?_
 ·omega
 ·simp only[go_sem];exact zSm (zx @cC.eq_1 @List.foldl_nil.{0,0})
 intro k hk;simp only[go_sem]
 by_cases hk2:k<es.length
 case neg=>
  have hke:k=es.length:=by omega
  subst hke;rw[R7];generalize hpe:cC l es=p;obtain⟨ns,ws⟩:=p;have t1:List.take ns.length (ns.map XX.row)=ns.map XX.row:=RK (by simp);have t2:List.take ws.length (ws.map AWatch.row)=ws.map AWatch.row:=RK (by simp);have hwl:ws.length*32≤140737488351232:=by have:=ju l es;rw[hpe] at this;simp only at this;omega
  (refine zW qw zn (zx @t1 @t2) (z1 ?_)<;>(repeat with_reducible intro hc))
  all_goals exact zEe (zx @t1 @t2)
 have hs:=xF l es k hk2;have hl:=ju l (es.take k);generalize cC l (es.take k)=p at hs hl ⊢;obtain⟨ns,ws⟩:=p;simp only at hl ⊢
 (refine zW qw zn Yj (z1 ?_)<;>(repeat with_reducible intro hc))
 generalize es.getD k default=e at hs ⊢;refine Xa (Xf 9 3 rfl) ?_;simp only[go_sem];refine W9 (ι:=Nat) (fun j=>j≤ws.length) (fun j=>ws.length-j) [14,15,16,20,21] (fun j=>[(6,.osl 0 3 0 (ns++fL e (ws.take j)).length),(8,.ptr 1 0),(9,.osl 2 3 0 (keptW e (ws.take j)).length),(22,I j)]) (fun j=>[.rows 3 ((ns++fL e (ws.take j)).map XX.row),.cells [I e.kind,S e.path],.rows 3 ((keptW e (ws.take j)).map AWatch.row)]) 0 ?_ ?_ ?_
 ·omega
 ·simp only[go_sem,fL,keptW,Tf,S3,TV,Se];exact zSm Yj
 intro j hj;simp only[go_sem]
 by_cases hj3:j<ws.length
 case neg=>
  have hje:j=ws.length:=by omega
  subst hje;rw[R7]
  (refine zW qw zn Yj (z1 ?_)<;>(repeat with_reducible intro hc))
  refine⟨k+1,by omega,by omega,ax.trans (Xs 0 2 (fun j hj=>by cases hj) rfl rfl (by simp)) ?_⟩;rw[hs];have t2:List.take (keptW e ws).length ((keptW e ws).map AWatch.row)=(keptW e ws).map AWatch.row:=RK (by simp);simp only[mS];exact zFr [0] @t2
 have hRj:∀ z,List.getD (List.map AWatch.row ws) j z=(ws.getD j default).row:=fun z=>AWatch.rgetD ws j z hj3
 have hks:=qI e ws j hj3;have hts:=rf e ws j hj3;have hkl:=qW e (ws.take j);rw[RV] at hkl;have htn:List.take (ns.length+(fL e (ws.take j)).length) (List.map XX.row (ns++fL e (ws.take j)))=List.map XX.row (ns++fL e (ws.take j)):=RK (by simp);have hkn:List.take (keptW e (ws.take j)).length (List.map AWatch.row (keptW e (ws.take j)))=List.map AWatch.row (keptW e (ws.take j)):=RK (by simp);generalize hw:ws.getD j default=w at hRj hks hts
 (refine zW qw zn (zx @hRj (zx @AWatch.row.eq_1 (zx @htn @hkn))) (z2 ?_ ?_)<;>(repeat with_reducible intro hc))
 ·have hh:ov e w=true:=by
   unfold ov;rw[RJ hc.1]
   by_cases e2:w.kind=2
   ·rw[RJ e2];rcases hc.2 with h|h
    ·exact absurd e2 h.1
    ·simpa using h.2
   ·rw[RI e2];rcases hc.2 with h|h
    ·have:=h.2;simp only[SQ,RN];omega
    ·exact absurd h.1 e2
  rw[RJ hh] at hks hts;refine Zq (j+1) ?_;rw[hks,hts];exact zFr [5,1,2] (zx @XX.row.eq_1 (zx @List.map_append.{0,0} (zx @List.map_cons.{0,0} (zx @List.map_nil.{0,0} (zx @List.append_assoc.{0} @SX)))))
 ·have hh:¬ ov e w=true:=by
   unfold ov
   by_cases e1:w.path=e.path
   ·rw[RJ e1]
    have hc2:=hc.resolve_left (fun h=>h e1)
    by_cases e2:w.kind=2
    ·rw[RJ e2];have:=hc2.2;simp only[SQ,RN];omega
    ·rw[RI e2];have:=hc2.1;simp only[SQ,RN];omega
   ·rw[RI e1];decide
  rw[RI hh] at hks hts;refine Zq (j+1) ?_;rw[hks,hts];exact zFr [0,1,5] (zx @AWatch.row.eq_1 (zx @List.map_append.{0,0} (zx @List.map_cons.{0,0} (zx @List.map_nil.{0,0} @List.length_append.{0}))))
theorem yj(a b:List XX)(h:a.length*32≤140737488351232)(h2:b.length*32≤140737488351232):ab prog [] 47 [.d (.sl 3 (a.map XX.row)),.d (.sl 3 (b.map XX.row))] (ret (B (decide (a=b)))):=by
 refine zJ func47 ntmps47 results47 ?_;simp only[go_sem]
 (refine zW qw zn Yj (z2 ?_ ?_)<;>(repeat with_reducible intro hc))
 ·(refine zE2 Yj ?_;(try simp(disch:=omega) only[go_sem,aa,I,B,S,zj]))
  symm;rw[RR];intro e;subst e;simp at hc
 have h3:=hc;refine Xd (ι:=Nat) (fun k=>k≤a.length∧∀ j,j<k→a.getD j default=b.getD j default) (fun k=>a.length-k) [0,1,12] (fun k=>[(13,I k)]) 0 ?_ (by simp(disch:=omega) only[go_sem,aa,SI]) ?_
 ·exact⟨by omega,by omega⟩
 intro k ⟨hk,hk2⟩;simp only[go_sem]
 (refine zW qw zn @XX.rgetD (z3 ?_ ?_ ?_)<;>(repeat with_reducible intro hc))
 ·(refine zE2 Yj ?_;(try simp(disch:=omega) only[go_sem,aa,I,B,S,zj]))
  symm;rw[RR];intro e;subst e;simp at hc
 ·refine⟨k+1,⟨by omega,fun j hj=>?_⟩,by omega,?_⟩
  ·by_cases e:j=k
   ·subst e;first|exact hc|exact(XX.ext_iff _ _).2 hc|(rw[XX.ext_iff,XZ.ext_iff];simp_all)
   ·exact hk2 j (by omega)
  exact zSm Yj
 ·(refine zE2 Yj ?_;(try simp(disch:=omega) only[go_sem,aa,I,B,S,zj]))
  symm;rw[RN]
  exact fP (by omega) fun j hj=>hk2 j (by omega)
theorem oW(k n:Nat):(byteAt k (n:Int)).toNat=n/256^k%256:=by
 unfold byteAt;rw[QE];have e:((n:Int)/((256^k:Nat):Int)%256).toNat=n/256^k%256:=by rw[←Wj,show(256:Int)=((256:Nat):Int) from rfl,←Int.natCast_emod,Ta]
 rw[e,UO,Nat.mod_mod]
theorem BG(n:Nat):∀ k,numN (beB k (n:Int))=n%256^k
 |0=>by rw[Vn,Nat.mod_one];rfl
 | k+1=>by
   rw[beB,qL,beB_len,BG n k,oW,T4,Nat.mod_mul,Wp (256^k),TS]
theorem f0{n k:Nat}(h:n<256^k):numN (beB k (n:Int))=n:=by rw[BG,Ts h]
theorem Kg{z:Int}(h0:0≤z)(h:z<9223372036854775808):kL (beB 8 z)=z:=by
 obtain⟨n,rfl⟩:=S1 h0;obtain⟨k,hk⟩:=LF (beB 8 (n:Int));rw[f0 (by omega)] at hk
 have:=AN (beB 8 (n:Int));unfold okI at this;omega
theorem gg{t:ATxn}(h:aT t=0):(0≤t.zxid∧t.zxid<9223372036854775808)∧(1≤t.op∧t.op≤5)∧(1≤t.session∧t.session≤2147483647)∧(0≤t.version∧t.version≤2147483647)∧(0≤t.owner∧t.owner≤2147483647)∧t.path.length≤200∧t.data.length≤256:=by
 obtain⟨a,b⟩:=fV h;unfold aT at h;split at h
 ·cases h
 split at h
 ·cases h
 rename_i h1 h2;have h3:=(eF t).1 (by simpa using h2);have hz:=h3.1;unfold bd at hz;exact⟨by omega,by omega,h3.2.1,h3.2.2.1,h3.2.2.2,a,b⟩
theorem mid{A B C s:List UInt8}(h:s=A++(B++C)){n m:Nat}(hn:A.length=n)(hm:B.length=m):(s.drop n).take m=B:=by rw[h,VG hn,Uv hm]
theorem at1{A C s:List UInt8}{x:UInt8}(h:s=A++(x::C)){n:Nat}(hn:A.length=n):s.getD n 0=x:=by rw[h,RG,RT (by omega),hn,Ty];rfl
theorem MQ{z:Int}(h0:0≤z)(h:z<256):((byteAt 0 z).toNat:Int)=z:=by obtain⟨n,rfl⟩:=S1 h0;rw[oW,Vn,VC,Ts (by omega)]
theorem yl{z:Int}{k:Nat}(h0:0≤z)(h:z<((256^k:Nat):Int)):((numN (beB k z):Nat):Int)=z:=by obtain⟨n,rfl⟩:=S1 h0;rw[f0 (by omega)]
theorem D4{t:ATxn}(h:aT t=0):(cE t).1=pZ t:=by unfold cE;rw[RJ h]
theorem nE{t:ATxn}(h:aT t=0):(cE t).1.length=31+t.path.length+t.data.length:=by rw[D4 h,pZ,RL,gJ,beB_len];omega
theorem NC{t:ATxn}(h:aT t=0)(more:List UInt8):cb ((cE t).1++more)=(t,(((cE t).1.length:Nat):Int),0):=by
 obtain⟨⟨z0,z1⟩,⟨p0,p1⟩,⟨s0,s1⟩,⟨v0,v1⟩,⟨o0,o1⟩,lp,ld⟩:=gg h;rw[nE h,D4 h];have hb:=fZ t;have hh:=gJ t
 -- the record's parts
 have e0:pZ t++more=84::(beB 2 ((bE t).length:Int)++(bE t++(beB 4 (ma (dv t))++more))):=by unfold pZ dv;simp only[Sq,SB,Sx]
 have e1:pZ t++more=dv t++(beB 4 (ma (dv t))++more):=by unfold pZ;rw[Sq]
 generalize hs:pZ t++more=s at e0 e1 ⊢;have hsl:s.length=31+t.path.length+t.data.length+more.length:=by rw[e1];simp only[RL,hh,beB_len];omega
 have hN:sN s=(bE t).length:=by unfold sN;rw[mid (n:=1) (m:=2) (A:=[84]) (B:=beB 2 ((bE t).length:Int)) e0 rfl (beB_len _ _),f0 (by omega)]
 have h1:¬ dx s:=by
  unfold dx;rw[e0];rintro(h|h)
  ·rw[←e0] at h;omega
  ·exact h rfl
 have h2:¬ dT s:=by unfold dT;rw[hN];omega
 have hsum:=PO (dv t);have h3:¬ gH s:=by unfold gH;rw[hN,mid (A:=dv t) (B:=beB 4 (ma (dv t))) (C:=more) e1 (by omega) (beB_len _ _),f0 (by omega),e1,Uv (by omega)];exact fun h=>h rfl
 have hB:sB s=bE t:=by unfold sB;rw[hN];exact mid (A:=[84]++beB 2 ((bE t).length:Int)) (C:=beB 4 (ma (dv t))++more) (by rw[e0];simp only[Sq,SB,Sx]) (by rw[RL,beB_len];rfl) rfl
 have hbt:dH (bE t)∧dV (bE t)=t:=by
  have b1:bE t=b6 t++(byteAt 0 t.path.length::(t.path++(beB 2 t.data.length++t.data))):=by unfold bE b7;simp only[Sq,SB,Sx]
  have b2:bE t=b7 t++(beB 2 t.data.length++t.data):=by unfold bE;simp only[Sq]
  have b3:bE t=beB 8 t.zxid++(byteAt 0 t.op::(beB 4 t.session++(beB 4 t.version++(beB 4 t.owner++(byteAt 0 t.path.length::(t.path++(beB 2 t.data.length++t.data))))))):=by unfold bE b7 b6 b5;simp only[Sq,SB,Sx]
  have b4:bE t=(beB 8 t.zxid++[byteAt 0 t.op])++(beB 4 t.session++(beB 4 t.version++(beB 4 t.owner++(byteAt 0 t.path.length::(t.path++(beB 2 t.data.length++t.data)))))):=by rw[b3];simp only[Sq,SB,Sx]
  have b5':bE t=b5 t++(beB 4 t.version++(beB 4 t.owner++(byteAt 0 t.path.length::(t.path++(beB 2 t.data.length++t.data))))):=by unfold bE b7 b6;simp only[Sq,SB,Sx]
  have b6':bE t=(b5 t++beB 4 t.version)++(beB 4 t.owner++(byteAt 0 t.path.length::(t.path++(beB 2 t.data.length++t.data)))):=by rw[b5'];simp only[Sq]
  have b7':bE t=(b6 t++[byteAt 0 t.path.length])++(t.path++(beB 2 t.data.length++t.data)):=by rw[b1];simp only[Sq,SB,Sx]
  have b8:bE t=(b7 t++beB 2 t.data.length)++t.data:=rfl;have hP:bP (bE t)=t.path.length:=by unfold bP;rw[at1 b1 (rx t),oW,Vn,VC,Ts (by omega)]
  have hD:bD (bE t)=t.data.length:=by unfold bD;rw[hP,mid b2 (oL t) (beB_len _ _),f0 (by omega)]
  refine⟨by unfold dH;rw[hP,hD];omega,?_⟩;unfold dV
  rw[hP,show(bE t).take 8=beB 8 t.zxid from by rw[b3,Uv (beB_len _ _)],Kg z0 z1,at1 b3 (beB_len _ _),MQ (by omega) (by omega),
   mid b4 (by rw[RL,beB_len];rfl) (beB_len _ _),yl (by omega) (by omega),mid b5' (oT t) (beB_len _ _),yl v0 (by omega),
   mid b6' (by rw[RL,oT,beB_len]) (beB_len _ _),yl o0 (by omega),mid b7' (by rw[RL,rx];rfl) rfl,
   show(bE t).drop (24+t.path.length)=t.data from by rw[b8,VG (by rw[RL,oL,beB_len];omega)]]
 rw[u4 h1 h2 h3 (by rw[hB];exact hbt.1) (by rw[hB,hbt.2];exact h),hB,hbt.2,hN];congr 2;omega
theorem Nh{t:ATxn}(h:aT t=0){m:Nat}(hm:m<(cE t).1.length):(cb ((cE t).1.take m)).2.2≠0:=by
 intro hz;obtain⟨h1,h2,_⟩:=Be hz;unfold dx at h1;unfold dT at h2;have hb:=fZ t;rw[nE h] at hm;have hl:((cE t).1.take m).length=m:=by rw[RV,nE h];omega
 have hm3:3≤m:=by omega
 have hN:sN ((cE t).1.take m)=(bE t).length:=by
  unfold sN;rw[List.drop_take,TU,SC (by omega),D4 h];have e0:pZ t=[84]++(beB 2 ((bE t).length:Int)++(bE t++beB 4 (ma (dv t)))):=by unfold pZ dv;simp only[Sq]
  obtain⟨_,_,_,_,_,lp,ld⟩:=gg h;rw[mid (n:=1) (m:=2) e0 rfl (beB_len _ _),f0 (by omega)]
 rw[hN] at h2;omega
theorem eH(t:ATxn)(l:List ATxn):encs (t::l)=(cE t).1++encs l:=by unfold encs;simp
theorem AH(a b:List ATxn):encs (a++b)=encs a++encs b:=by unfold encs;simp
theorem Ew:(cb []).2.2≠0:=by decide
theorem Dj{t:ATxn}{l:List ATxn}(h:logOk (t::l)):logOk l:=by
 refine⟨fun k hk=>?_,fun x hx=>h.2 x (Si _ hx)⟩
 have:=h.1 (k+1) (by simpa using hk);simpa using this
theorem CF{s:List UInt8}{f at_:Nat}{l:List ATxn}{t:ATxn}{more:List UInt8}(ht:aT t=0)(hz:0<l.length→aA l<t.zxid)(hd:s.drop at_=(cE t).1++more) :
  gk s (f+1) at_ l=gk s f (at_+(cE t).1.length) (l++[t]):=by
 have e:=NC ht more;rw[gI (n:=(cE t).1.length) (by rw[hd,e]) (by rw[hd,e];rintro⟨h0,h1⟩;have:=hz h0;simp only at h1;omega) (by rw[hd,e]),hd,e]
theorem wJ(s:List UInt8):∀(r:List ATxn) (f at_:Nat) (l:List ATxn) (rest:List UInt8),logOk r→(0<l.length→0<r.length→aA l<(r.getD 0 default).zxid)→s.drop at_=encs r++rest→(cb rest).2.2≠0→r.length<f→
  gk s f at_ l=(l++r,at_+(encs r).length)
 | [],f,at_,l,rest,_,_,hd,hr,hf=>by
   obtain⟨f,rfl⟩:∃ g,f=g+1:=⟨f-1,by simp at hf;omega⟩;rw[fI,Sx] at hd;rw[fN (.inl (by rw[hd];exact hr)),Se,fI];rfl
 | t :: r,f,at_,l,rest,ho,hz,hd,hr,hf=>by
   obtain⟨f,rfl⟩:∃ g,f=g+1:=⟨f-1,by simp at hf;omega⟩;rw[eH,Sq] at hd;rw[CF (ho.2 t (SF ..)) (fun h0=>hz h0 (by simp)) hd];rw[wJ s r f _ (l++[t]) rest (Dj ho) (fun _ h1=>?_) (by rw[←SH,hd,VG rfl]) hr (by simp at hf;omega),eH,RL,Sq,SX]
   ·rfl
   ·rw[fO]
    have:=ho.1 0 (by simp;omega);simpa using this
theorem MU{t:ATxn}(h:aT t=0):31≤(cE t).1.length:=by rw[nE h];omega
theorem Nt{l:List ATxn}(h:∀ t,t∈l→aT t=0):l.length*31≤(encs l).length:=by
 induction l with
 |nil=>exact RX _
 | cons t l ih=>
   have h1:=MU (h t (SF ..));have h2:=ih fun x hx=>h x (Si _ hx)
   rw[eH,RL,RQ];omega
theorem BY{l:List ATxn}(h:logOk l){rest:List UInt8}(hr:(cb rest).2.2≠0):scanT (encs l++rest)=(l,(encs l).length):=by have hl:=Nt h.2;unfold scanT;rw[wJ _ l _ 0 [] rest h (fun h0=>absurd h0 (by decide)) rfl hr (by rw[RL];omega),Sx,SO]
theorem oz{l:List ATxn}(h:logOk l)(k:Nat):logOk (l.take k):=by
 refine⟨fun j hj=>?_,fun x hx=>h.2 x (St hx)⟩;rw[RV] at hj;have g:∀ i,i<k→(l.take k).getD i default=l.getD i default:=fun i hi=>by rw[RG,Tc,RJ hi,RG]
 rw[g j (by omega),g (j+1) (by omega)];exact h.1 j (by omega)
theorem Bg:∀(l:List ATxn) (m:Nat),(∀ t,t∈l→aT t=0)→∃ k rest,k≤l.length∧(encs l).take m=encs (l.take k)++rest∧(cb rest).2.2≠0∧(∀ a,a≤l.length→(encs (l.take a)).length≤m→a≤k)
 |[],m,_=>⟨0,[],RP _,by rw[fI,List.take_nil];rfl,Ew,fun a ha _=>ha⟩
 | t :: l,m,hg=>by
   have ht:=hg t (SF ..)
   by_cases hm:m<(cE t).1.length
   ·refine⟨0,(cE t).1.take m,RX _,?_,Nh ht hm,fun a ha hl=>?_⟩
    ·rw[eH,Sm (by omega),Tf,fI,Sx]
    ·rcases a with _|a
     ·exact RP _
     ·rw[Tl,eH,RL] at hl;omega
   ·obtain⟨k,rest,h1,h2,h3,h4⟩:=Bg l (m-(cE t).1.length) fun x hx=>hg x (Si _ hx)
    refine⟨k+1,rest,by simp;omega,?_,h3,fun a ha hl=>?_⟩
    ·rw[eH,Wn,RK (by omega),h2,Tl,eH,Sq]
    ·rcases a with _|a
     ·exact RX _
     ·rw[Tl,eH,RL] at hl
      have:=h4 a (by simpa using ha) (by omega);omega
theorem K4{l:List ATxn}(h:logOk l)(m:Nat):∃ k,k≤l.length∧scanT ((encs l).take m)=(l.take k,(encs (l.take k)).length)∧(∀ a,a≤l.length→(encs (l.take a)).length≤m→a≤k):=by obtain⟨k,rest,h1,h2,h3,h4⟩:=Bg l m h.2;exact⟨k,h1,by rw[h2,BY (oz h k) h3],h4⟩
def epN:List UInt8:=[101,112,111,99,104]
def mkD(e:Option (List UInt8))(s t:List UInt8):List AFile:=
 match e with
 |none=>[⟨logN,s,t⟩]
 |some x=>[⟨epN,x,[]⟩,⟨logN,s,t⟩]
def okD(e:Option (List UInt8))(s t:List UInt8):Prop:=(∀ x,e=some x→x.length≤1048576)∧s.length+t.length≤1048576
theorem vr:aU epN=true:=by decide
theorem Jj:epN<logN:=by decide
theorem go{e:Option (List UInt8)}{s t:List UInt8}(h:okD e s t):bF (mkD e s t)=true:=by
 rw[iN];obtain⟨h1,h2⟩:=h;cases e with
 | none=>
   refine⟨by show 1≤16;decide,fun k hk=>?_⟩;have hk0:k=0:=by have:k<1:=hk;omega
   subst hk0;exact⟨⟨gV,h2⟩,fun h=>absurd h (by decide)⟩
 | some x=>
   have h3:=h1 x rfl;refine⟨by show 2≤16;decide,fun k hk=>?_⟩;have hk0:k=0∨k=1:=by have:k<2:=hk;omega
   rcases hk0 with rfl|rfl
   ·exact⟨⟨vr,by show x.length+0≤_;omega⟩,fun h=>absurd h (by decide)⟩
   ·exact⟨⟨gV,h2⟩,fun _=>Jj⟩
theorem uV:place [logN] logN=0:=by decide
theorem tH:place [epN,logN] logN=1:=by decide
theorem Gc:place [logN] epN=0:=by decide
theorem qA:place [epN,logN] epN=0:=by decide
theorem iR(s t:List UInt8):(mkD none s t).map AFile.name=[logN]:=rfl
theorem kr(x s t:List UInt8):(mkD (some x) s t).map AFile.name=[epN,logN]:=rfl
theorem Dd(e:Option (List UInt8))(s t:List UInt8):logN∈(mkD e s t).map AFile.name:=by
 cases e with
 |none=>rw[iR];exact S5.2 rfl
 |some x=>rw[kr];simp
theorem zp(e:Option (List UInt8))(s t:List UInt8):(mkD e s t).getD (place ((mkD e s t).map AFile.name) logN) default=⟨logN,s,t⟩:=by
 cases e with
 |none=>rw[iR,uV];rfl
 |some x=>rw[kr,tH];rfl
theorem zk(e:Option (List UInt8))(s t s2 t2:List UInt8):(mkD e s t).set (place ((mkD e s t).map AFile.name) logN) ⟨logN,s2,t2⟩=mkD e s2 t2:=by
 cases e with
 |none=>rw[iR,uV];rfl
 |some x=>rw[kr,tH];rfl
theorem HO{e:Option (List UInt8)}{s t:List UInt8}(h:okD e s t):readD (mkD e s t) logN=(s++t,0):=by unfold readD;rw[RI (by rw[go h];decide),RJ (Dd e s t),zp]
theorem I8{x s t:List UInt8}(h:okD (some x) s t):readD (mkD (some x) s t) epN=(x,0):=by unfold readD;rw[RI (by rw[go h];decide),kr,RJ (by simp),qA];show(x++[],(0:Int))=_;rw[Se]
theorem J7{s t:List UInt8}(h:okD none s t):readD (mkD none s t) epN=([],7):=by unfold readD;rw[RI (by rw[go h];decide),iR,RI (by decide)]
theorem FH{e:Option (List UInt8)}{s t x:List UInt8}(h:okD e s t)(hx:s.length+t.length+x.length≤1048576):aD (mkD e s t) logN x=(⟨mkD e s (t++x)⟩,0):=by unfold aD;rw[RI (by rw[go h];decide),RI (by rw[gV];decide),RJ (Dd e s t),zp];simp only;rw[RI (by omega),zk]
theorem Db{e:Option (List UInt8)}{s t:List UInt8}(h:okD e s t)(F:AFile→AFile×Int){s2 t2:List UInt8}(hF:F ⟨logN,s,t⟩=(⟨logN,s2,t2⟩,0)):bo (mkD e s t) logN F=(⟨mkD e s2 t2⟩,0):=by rw[fW (go h) (Dd e s t) (by rw[zp,hF]),zp,hF,zk]
theorem G3{e:Option (List UInt8)}{s t:List UInt8}(h:okD e s t){x:ATxn}(hx:aT x=0)(hl:s.length+t.length+(cE x).1.length≤1048576)(safe:Bool) :
  cI (mkD e s t) x safe=(⟨if safe then mkD e (s++(t++(cE x).1)) [] else mkD e s (t++(cE x).1)⟩,0):=by
 unfold cI;rw[RI (by rw[hx];decide),FH h hl];cases safe with
 |false=>rw[RJ (.inr rfl)];rfl
 | true=>
   rw[RI (by simp)];have h2:okD e s (t++(cE x).1):=⟨h.1,by rw[RL];omega⟩;exact Db h2 lT rfl
theorem L9{e:Option (List UInt8)}{s t:List UInt8}(h:okD e s t){keep:Int}(hk:0≤keep):eI (mkD e s t) keep=(⟨mkD e (s++t.take keep.toNat) []⟩,0):=by
 unfold eI;rw[RI (by rw[go h];simp;omega)];cases e with
 |none=>rfl
 |some x=>show((⟨[⟨epN,x++List.take keep.toNat [],[]⟩,_]⟩:X4),(0:Int))=_;rw[List.take_nil,Se];rfl
theorem kR{e:Option (List UInt8)}{s t:List UInt8}(h:okD e s t):recoverD (mkD e s t)=((scanT (s++t)).1,⟨mkD e (encs (scanT (s++t)).1) []⟩,0):=by have hr:=HO h;rw[Is (by rw[hr];exact(by decide:¬ (0:Int)=7)) (by rw[hr]),mV (by rw[hr]),hr,zk]
theorem Da(s:List UInt8):(encs (scanT s).1).length≤s.length:=by obtain⟨_,h2,h3⟩:=pK s;rw[h2,RV];omega
theorem N1{e:Option (List UInt8)}{s t:List UInt8}(h:okD e s t)(z:Int):keepD (mkD e s t) z=(⟨mkD e (encs (keepL (scanT (s++t)).1 z)) []⟩,0):=by rw[pH (by rw[kR h]),kR h,zk]
theorem CX{x s t:List UInt8}(h:okD (some x) s t):bn (mkD (some x) s t) epN=(⟨mkD none s t⟩,0):=by unfold bn;rw[RI (by rw[go h];decide),kr,RJ (by simp),qA];rfl
theorem D9{s t:List UInt8}(h:okD none s t):bn (mkD none s t) epN=(default,7):=by unfold bn;rw[RI (by rw[go h];decide),iR,RI (by decide)]
theorem Ig{s t y:List UInt8}(h:okD none s t)(hy:y.length≤1048576):aD (mkD none s t) epN y=(⟨[⟨epN,[],y⟩,⟨logN,s,t⟩]⟩,0):=by unfold aD;rw[RI (by rw[go h];decide),RI (by rw[vr];decide),iR,RI (by decide),RI (by show ¬ 16≤1;decide),RI (by omega),Gc];rfl
theorem M6{s t y:List UInt8}(h:okD none s t)(hy:y.length≤1048576):bo [⟨epN,[],y⟩,⟨logN,s,t⟩] epN lT=(⟨mkD (some y) s t⟩,0):=by
 have hg:bF [⟨epN,[],y⟩,⟨logN,s,t⟩]=true:=by
  rw[iN];refine⟨by show 2≤16;decide,fun k hk=>?_⟩;have hk0:k=0∨k=1:=by have:k<2:=hk;omega
  rcases hk0 with rfl|rfl
  ·exact⟨⟨vr,by show 0+y.length≤_;omega⟩,fun h=>absurd h (by decide)⟩
  ·exact⟨⟨gV,h.2⟩,fun _=>Jj⟩
 have hn:([⟨epN,[],y⟩,⟨logN,s,t⟩]:List AFile).map AFile.name=[epN,logN]:=rfl;rw[fW hg (by rw[hn];simp) rfl,hn,qA];rfl
def lx(a b:X3):Bool:=decide (aA b.log<aA a.log)||(decide (aA a.log=aA b.log)&&decide (b.id<a.id))
def cD(p:X3):Int×Int:=if epZ (aA p.log)<p.epoch then(if(mkZ p.epoch 0).2≠0 then(0,(mkZ p.epoch 0).2) else iX (mkZ p.epoch 0).1) else iX (aA p.log)
def iD(p:X3):Bool:=decide (p.id<0)||decide (3≤p.id)||decide (p.epoch<0)||decide (2147483647<p.epoch)
def vw(l:List X3)(i:Nat):Bool:=(l.take i).any fun q=>decide (q.id=(l.getD i default).id)
def fU(l:List X3)(i:Nat):Int:=if vw l i then 8 else if iD (l.getD i default) then 3 else 0
def bB(l:List X3):Nat→Int
 |0=>0
 |n+1=>if bB l n=0 then fU l n else bB l n
def mx(a b:Int):Int:=if a<b then b else a
def cj(l:List X3):Nat→Nat×Int
 |0=>(0,0)
 |n+1=>(if lx (l.getD n default) (l.getD (cj l n).1 default) then n else(cj l n).1,mx (mx (cj l n).2 (l.getD n default).epoch) (epZ (aA (l.getD n default).log)))
def bS(l:List X3):Int×Int×Int:=
 if bB l l.length=0 then
  if l.length<2 then(0,0,14) else if 2147483647≤(cj l l.length).2 then(0,0,6) else(((cj l l.length).1:Int),(cj l l.length).2+1,0)
 else(0,0,bB l l.length)
def gv(c:X0)(z:Int):X0×Int:=if z<c.seen then(default,15) else({ c with seen:=z },0)
def LT(s:Int):X0×Int:=if s<1∨2147483647<s then(default,3) else(⟨s,0,[]⟩,0)
def normE(e:AEntry):AEntry:=if e.there=true then e else⟨e.path,[],e.there⟩
def fR(l:List AEntry)(e:AEntry):List AEntry:=
 if e.path∈l.map AEntry.path then l.set (place (l.map AEntry.path) e.path) (normE e) else l.insertIdx (place (l.map AEntry.path) e.path) (normE e)
def fv(l:List AEntry)(key:List UInt8):List AEntry:=l.filter fun f=>decide (f.path≠key)
def lR(s:Int)(l:List AEntry)(n:XX):List AEntry:=if n.session=s∧n.event.kind≠4 then fv l n.event.path else l
def dZ(s:Int)(l:List AEntry)(ns:List XX):List AEntry:=ns.foldl (lR s) l
theorem zm(l:List AEntry)(h:l.length*40≤140737488351232):ab prog [] 230 [.d (.sl 3 (l.map AEntry.row))] (own 3 (l.map AEntry.row)):=by
 refine zJ func230 ntmps230 results230 ?_;simp only[go_sem]
 (repeat' first
|(with_reducible refine AR.f ?_)
|refine bH (by decide) ?_
|(with_reducible refine AWP.cond rfl ?_ ?_<;>intro hc<;>(try simp only[hcs,R1,Sa,Sb] at hc))
|((first|((first|(with_reducible first|refine zR ?_));intro K hK)|((first|(with_reducible refine aunder_i ?_ ?_<;>intro hg)|with_reducible intro hg)<;>(first|(exfalso;simp at hg;done)|(have hg':=hg;(try simp only[hcs,R1,Sa,Sb] at hg');(try simp only[hg])))))<;>(try simp(disch:=omega) only[go_sem,aa])<;>(repeat' with_reducible refine Su ?_ ?_)<;>(try(with_reducible refine hK _ ?_;clear hK K)))
|omega)
 ·have e:l.length=0:=by
   rcases TC l.length with h0|h0
   ·exact h0
   ·rw[hg h0] at hc;simp at hc
  rw[gU e]
  (refine m6 (by first|exact .inl rfl|exact .inr rfl) rfl ?_ ?_<;>simp(disch:=omega) only[go_sem,aa])
 ·(refine mI 1 (by first|exact .inl rfl|exact .inr rfl) rfl ?_ rfl rfl ?_<;>(try simp(disch:=omega) only[go_sem,aa,RO]))
theorem pJ(c:X0)(h:c.cache.length*40≤140737488351232):ab prog [] 178 [c.av] (dr (.agg [I c.session,I c.seen,.osl 0 3 0 c.cache.length]) [.rows 3 (c.cache.map AEntry.row)]):=by
 refine zJ func178 ntmps178 results178 ?_;simp only[go_sem]
 (refine zW qw (z1 (zm _ h)) Yj (z1 ?_)<;>(repeat with_reducible intro hc))
 (refine zOp Yj ?_;simp(disch:=omega) only[go_sem,aa];refine Xc ?_ (af.same ⟨rfl,rfl⟩);refine zV [2] rfl rfl rfl rfl ?_ ?_<;>simp(disch:=omega) only[go_sem,aa,UC,UD])
theorem pT(c:X0)(h:c.cache.length*40≤140737488351232):ab prog [] 161 [c.av] (ret c.av):=by
 refine zJ func161 ntmps161 results161 ?_;simp only[go_sem]
 (refine zW qw zn Yj (z1 ?_)<;>(repeat with_reducible intro hc))
 all_goals exact zEe Yj
theorem Oo(c:X0)(z:Int)(h:c.cache.length*40≤140737488351232):ab prog [] 110 [c.av,I z] (ret (.tup [(gv c z).1.av,I (gv c z).2])):=by
 refine zJ func110 ntmps110 results110 ?_;simp only[go_sem]
 (refine zW qw (z1 (pJ c h)) Yj (z2 ?_ ?_)<;>(repeat with_reducible intro hc))
 all_goals(unfold gv)
 ·rw[RJ hc];exact zEe dfl
 ·rw[RI (by omega)];exact zEe Yj
theorem F8(c:X0)(z:Int)(h:c.cache.length*40≤140737488351232):ab prog [] 97 [c.av,I z] (ret (.tup [(gv c z).1.av,I (gv c z).2])):=by
 refine zJ func97 ntmps97 results97 ?_;simp only[go_sem]
 (refine zW qw (z1 (pT c h)) Yj (z2 ?_ ?_)<;>(repeat with_reducible intro hc))
 all_goals(unfold gv)
 ·rw[RJ hc];exact zEe dfl
 ·rw[RI (by omega)];exact zEe Yj
theorem Pm(s:Int):ab prog [] 54 [I s] (ret (.tup [(LT s).1.av,I (LT s).2])):=by
 refine zJ func54 ntmps54 results54 ?_;simp only[go_sem]
 (refine zW qw zn Yj (z2 ?_ ?_)<;>(repeat with_reducible intro hc))
 all_goals(unfold LT)
 ·rw[RJ (by omega)];exact zEe dfl
 ·rw[RI (by omega)];exact zEe Yj
theorem vZ(a b:X0)(h:a.cache.length*40≤140737488351232)(h2:b.cache.length*40≤140737488351232):ab prog [] 23 [a.av,b.av] (ret (B (decide (a=b)))):=by
 refine zJ func23 ntmps23 results23 ?_;simp only[go_sem]
 (refine zW qw zn Yj (z2 ?_ ?_)<;>(repeat with_reducible intro hc))
 ·(refine zE2 Yj ?_;(try simp(disch:=omega) only[go_sem,aa,I,B,S,zj]))
  symm;rw[RR];intro e;subst e;simp at hc
 have h3:=hc;refine Xd (ι:=Nat) (fun k=>k≤a.cache.length∧∀ j,j<k→a.cache.getD j default=b.cache.getD j default) (fun k=>a.cache.length-k) [2,3,29] (fun k=>[(30,I k)]) 0 ?_ (by simp(disch:=omega) only[go_sem,aa,SI]) ?_
 ·exact⟨by omega,by omega⟩
 intro k ⟨hk,hk2⟩;simp only[go_sem]
 (refine zW qw zn Yj (z3 ?_ ?_ ?_)<;>(repeat with_reducible intro hc))
 ·(refine zE2 Yj ?_;(try simp(disch:=omega) only[go_sem,aa,I,B,S,zj]))
  symm;rw[RR];intro e;subst e;simp at hc
 ·refine⟨k+1,⟨by omega,fun j hj=>?_⟩,by omega,?_⟩
  ·by_cases e:j=k
   ·subst e;exact hc
   ·exact hk2 j (by omega)
  exact zSm Yj
 ·(refine zE2 Yj ?_;(try simp(disch:=omega) only[go_sem,aa,I,B,S,zj]))
  symm;rw[RN,X0.ext_iff]
  exact⟨h3.1.1,h3.1.2,fP (by omega) fun j hj=>hk2 j (by omega)⟩
theorem tf(c:X0)(key:List UInt8)(h:c.cache.length*40≤140737488351232)(hr:aF (c.cache.map AEntry.path)) :
  ab prog [] 180 [c.av,S key] (ret (.tup [I (place (c.cache.map AEntry.path) key),B (decide (key∈c.cache.map AEntry.path))])):=by
 refine zJ func180 ntmps180 results180 ?_;simp only[go_sem];refine zW qw (z1 (Hf _ key h hr)) Yj (z1 ?_);exact zEe Yj
theorem Bz{e:AEntry}(h:e.there=false):normE e=⟨e.path,[],e.there⟩:=by unfold normE;rw[RI (by simp[h])]
theorem wv{e:AEntry}(h:e.there=true):normE e=⟨e.path,e.data,e.there⟩:=by unfold normE;rw[RJ h]
theorem pV{l:List AEntry}(i:Nat)(x:AEntry)(h:i≤l.length):(l.insertIdx i x).length=l.length+1:=by rw[cT _ _ _ h];simp;omega
theorem wX(l:List AEntry)(i:Nat)(x:AEntry)(h:i≤l.length):((l.insertIdx i x).map AEntry.row).take (l.length+1)=(l.insertIdx i x).map AEntry.row:=RK (by rw[RO,pV _ _ h];omega)
theorem nC{l:List AEntry}{key:List UInt8}:place (l.map AEntry.path) key≤l.length:=by have:=eT (l.map AEntry.path) key;simpa using this
theorem nN{l:List AEntry}{key:List UInt8}(h:aF (l.map AEntry.path))(h2:key∈l.map AEntry.path):place (l.map AEntry.path) key<l.length:=by have:=(ag h h2).1;simpa using this
theorem NF(c:X0)(e:AEntry)(h:c.cache.length≤100000)(hr:aF (c.cache.map AEntry.path)) :
  ab prog [] 112 [c.av,e.av] (ret (X0.av ⟨c.session,c.seen,fR c.cache e⟩)):=by
 have hb:c.cache.length*40≤140737488351232:=by omega
 have hpl:=nC (l:=c.cache) (key:=e.path)
 by_cases hm:e.path∈c.cache.map AEntry.path
 ·have hlt:=nN hr hm
  unfold fR;rw[RJ hm];refine zJ func112 ntmps112 results112 ?_;simp only[go_sem]
  (refine zW qw (z2 (pJ c hb) ((tf c e.path hb hr).re (by rw[decide_eq_true hm]))) @AEntry.rset (z2 ?_ ?_)<;>(repeat with_reducible intro hc))
  ·rw[Bz (by assumption)]
   exact zEe @bL
  ·rw[wv (by assumption)]
   exact zEe @bL
 ·unfold fR;rw[RI hm]
  refine zJ func112 ntmps112 results112 ?_;simp only[go_sem]
  (refine zW qw (z4 (pJ c hb) ((tf c e.path hb hr).re (by rw[R0 hm])) (ow (uO (c.cache.map AEntry.row) [.str e.path,.str [],.bool e.there] (place (c.cache.map AEntry.path) e.path) (by simpa using hpl) (by simp only[RO];omega))) (ow (uO (c.cache.map AEntry.row) [.str e.path,.str e.data,.bool e.there] (place (c.cache.map AEntry.path) e.path) (by simpa using hpl) (by simp only[RO];omega)))) (zx @AEntry.rset @AEntry.rins) (z2 ?_ ?_)<;>(repeat with_reducible intro hc))
  ·rw[Bz (by assumption)]
   have:=pV (l:=c.cache) (place (c.cache.map AEntry.path) e.path) ⟨e.path,[],e.there⟩ hpl;exact zEe @wX
  ·rw[wv (by assumption)]
   have:=pV (l:=c.cache) (place (c.cache.map AEntry.path) e.path) ⟨e.path,e.data,e.there⟩ hpl;exact zEe @wX
theorem uj(l:List AEntry)(key:List UInt8)(k:Nat)(h:k<l.length):fv (l.take (k+1)) key=if(l.getD k default).path≠key then fv (l.take k) key++[l.getD k default] else fv (l.take k) key:=by
 unfold fv;rw[aN l k h,SA]
 by_cases e:(l.getD k default).path≠key
 ·rw[RJ e,S2 (by simpa using e)];rfl
 ·rw[RI e,SE (by simpa using e),S3,Se]
theorem uY{l:List AEntry}{key:List UInt8}(h:¬ key∈l.map AEntry.path):fv l key=l:=by unfold fv;rw[SU];intro f hf;rw[RN];intro e;exact h (SV.2 ⟨f,hf,e⟩)
theorem dL(l:List AEntry)(k:Nat):(l.map AEntry.path).getD k []=(l.getD k default).path:=cW AEntry.path l k default
theorem rU{l:List AEntry}{key:List UInt8}(hr:aF (l.map AEntry.path))(h:key∈l.map AEntry.path):fv l key=l.eraseIdx (place (l.map AEntry.path) key):=by
 have hp:=ag hr h;generalize place (l.map AEntry.path) key=p at *
 have hpl:p<l.length:=by simpa using hp.1
 have hne:∀ j,j<l.length→j≠p→(l.getD j default).path≠key:=fun j hj hjp e=>by
  have e1:(l.map AEntry.path).getD j []=key:=by rw[dL];exact e
  rcases TO hjp with h1|h1
  ·have:=aV hr h1 (by simpa using hpl);rw[e1,hp.2] at this;exact Sw _ this
  ·have:=aV hr h1 (by simpa using hj);rw[e1,hp.2] at this;exact Sw _ this
 have hpk:(l.getD p default).path=key:=by have:=hp.2;rwa[dL] at this
 have hs:l=l.take p++l.getD p default::l.drop (p+1):=by rw[RG,RH hpl];simp
 have h1:(l.take p).filter (fun f=>decide (f.path≠key))=l.take p:=by
  rw[SU];intro f hf;obtain⟨j,hj,rfl⟩:=ST.1 hf
  have:=hne j (by omega) (by omega);rw[RG,RH (by omega)] at this;simpa using this
 have h2:(l.drop (p+1)).filter (fun f=>decide (f.path≠key))=l.drop (p+1):=by
  rw[SU];intro f hf;obtain⟨j,hj,rfl⟩:=Te.1 hf
  have:=hne (p+1+j) (by omega) (by omega);rw[RG,RH (by omega)] at this;simpa using this
 rw[eQ];unfold fv
 conv=>lhs;rw[hs]
 rw[SA,SE (by simp only[hpk];simp),h1,h2]
theorem Ge(key:List UInt8):fv [] key=[]:=rfl
theorem rj(l:List AEntry)(key:List UInt8)(h:l.length*40≤140737488351232):ab prog [] 164 [.d (.sl 3 (l.map AEntry.row)),S key] (ret (.d (.sl 3 ((fv l key).map AEntry.row)))):=by
 refine zJ func164 ntmps164 results164 ?_;simp only[go_sem];refine zW qw zn Yj (z1 ?_);refine Xa (Xf 5 3 rfl) ?_;simp only[go_sem];refine W9 (ι:=Nat) (fun k=>k≤l.length) (fun k=>l.length-k) [1,8,9] (fun k=>[(10,I k),(5,.osl 0 3 0 (fv (l.take k) key).length)]) (fun k=>[.rows 3 ((fv (l.take k) key).map AEntry.row)]) 0 ?_ ?_ ?_
 ·omega
 ·simp only[go_sem,Ge];exact zSm Yj
 intro k hk;have hol:(fv (l.take k) key).length≤k:=R8 (SW _ _) (Tg _ _);simp only[go_sem]
 (refine zW qw zn (zx @AEntry.rgetD (zx @ay @AEntry.rsnoc)) (z3 ?_ ?_ ?_)<;>(repeat with_reducible intro hc))
 ·refine Zq (k+1) ?_
  rw[uj _ _ _ (by assumption),RJ hc];exact zFr [3] @List.length_append.{0}
 ·refine Zq (k+1) ?_
  rw[uj _ _ _ (by assumption),RI (by simpa using hc)];exact zFr [0] Yj
 ·have e:k=l.length:=by omega
  subst e;simp only[R7];exact zEe Yj
def jY(m:List AEntry)(q i:Nat)(x:AEntry):List AEntry:=if q<i then(m.take i).insertIdx q x else m.take i
theorem Bc(m:List AEntry)(q i:Nat)(x:AEntry)(hi:i≤m.length):(jY m q i x).length≤i+1:=by
 unfold jY;split
 ·rw[pV _ _ (by simp;omega)];simp;omega
 ·simp;omega
theorem ww(m:List AEntry)(q:Nat)(x:AEntry):jY m q 0 x=[]:=by unfold jY;rw[RI (by omega)];rfl
theorem rJ(m:List AEntry)(q i:Nat)(x:AEntry)(h:i<q)(hi:i<m.length):jY m q i x++[m.getD i default]=jY m q (i+1) x:=by unfold jY;rw[RI (by omega),RI (by omega),aN _ _ hi]
theorem E8(m:List AEntry)(i:Nat)(x:AEntry)(hi:i<m.length):(jY m i i x++[x])++[m.getD i default]=jY m i (i+1) x:=by
 unfold jY;rw[RI (by omega),RJ (by omega),cT _ _ _ (by simp;omega),aN _ _ hi];have e:(m.take i).length=i:=by simp;omega
 rw[Sm (by omega),Tu (by omega)];simp[RK (Ux e)]
theorem rS(m:List AEntry)(q i:Nat)(x:AEntry)(h:q<i)(hi:i<m.length):jY m q i x++[m.getD i default]=jY m q (i+1) x:=by
 unfold jY;rw[RJ h,RJ (by omega),aN _ _ hi,cT _ _ _ (by simp;omega),cT _ _ _ (by simp;omega)];have e:(m.take i).length=i:=by simp;omega
 rw[Sm (by omega),Tu (by omega)];simp
theorem B4(m:List AEntry)(q:Nat)(x:AEntry)(h:q<m.length):jY m q m.length x=m.insertIdx q x:=by unfold jY;rw[RJ h,R7]
theorem wS(m:List AEntry)(x:AEntry):jY m m.length m.length x++[x]=m.insertIdx m.length x:=by unfold jY;rw[RI (by omega),R7,cT _ _ _ (RP _),R7,TG]
theorem qh{l:List AEntry}{key:List UInt8}(hr:aF (l.map AEntry.path)):aF ((fv l key).map AEntry.path):=by
 have hp:∀ l:List AEntry,aF (l.map AEntry.path)↔List.Pairwise (· < ·) (l.map AEntry.path):=fun l=>by
  constructor
  ·intro h
   rw[SZ];intro i j hi hj hij
   have:=aV h hij hj;rwa[RG,RG,RH hi,RH hj] at this
  ·intro h k hk
   rw[SZ] at h
   have:=h k (k+1) (by omega) hk (by omega);rw[RG,RG,RH (by omega),RH hk];exact this
 rw[hp] at *
 rw[List.pairwise_map] at *
 exact hr.filter _
theorem Gm(l:List AEntry)(key:List UInt8):¬ key∈(fv l key).map AEntry.path:=by
 intro h;obtain⟨f,hf,e⟩:=SV.1 h
 have:=(TE.1 hf).2;simp[e] at this
theorem lw{l:List AEntry}{key:List UInt8}{j:Nat}(hj:j<place (l.map AEntry.path) key):(l.getD j default).path<key:=by have:=Uh (p:=fun x=>!decide (x<key)) (xs:=l.map AEntry.path) hj;have hl:j<(l.map AEntry.path).length:=SL hj (eT _ _);rw[Bool.not_eq_false',RN] at this;rw[←dL,RG,RH hl];exact this
theorem qm{l:List AEntry}{key:List UInt8}{j:Nat}(hr:aF (l.map AEntry.path))(hn:¬ key∈l.map AEntry.path)(hj:place (l.map AEntry.path) key≤j)(hl:j<l.length):key<(l.getD j default).path:=by
 have hl':place (l.map AEntry.path) key<(l.map AEntry.path).length:=by simp;omega
 have h0:¬ (l.map AEntry.path).getD (place (l.map AEntry.path) key) []<key:=by have:=UA (p:=fun x=>!decide (x<key)) (xs:=l.map AEntry.path) (w:=hl');rw[SY,RR] at this;rw[RG,RH hl'];exact this
 have h1:¬ (l.map AEntry.path).getD j []<key:=by
  by_cases e:place (l.map AEntry.path) key=j
  ·rwa[e] at h0
  ·intro h2;exact h0 (Tk (aV hr (Nat.lt_of_le_of_ne hj e) (by simpa using hl)) h2)
 rw[dL] at h1;refine gN h1 fun e=>hn ((aM _ [] key).2 ⟨j,by simpa using hl,by rw[dL];exact e⟩)
theorem A1{l:List AEntry}{key:List UInt8}(hr:aF (l.map AEntry.path))(h:key∈l.map AEntry.path):place ((l.eraseIdx (place (l.map AEntry.path) key)).map AEntry.path) key=place (l.map AEntry.path) key:=by
 have hlt:=nN hr h;have hf:=(ag hr h).2;rw[dL] at hf;refine gy ?_ (fun j hj=>?_) fun hl=>?_
 ·rw[RO,Uq hlt];omega
 ·rw[dL,RG,List.getElem?_eraseIdx_of_lt hj,←RG];exact lw hj
 ·rw[RO,Uq hlt] at hl
  rw[dL,RG,List.getElem?_eraseIdx_of_ge (RP _),←RG]
  have:=aV hr (i:=place (l.map AEntry.path) key) (j:=place (l.map AEntry.path) key+1) (by omega) (by simp;omega);rw[dL,dL,hf] at this;exact fun h2=>Sw _ (Tk this h2)
theorem K3{l:List AEntry}{e:AEntry}(hr:aF (l.map AEntry.path)):fR l e=(fv l e.path).insertIdx (place ((fv l e.path).map AEntry.path) e.path) (normE e):=by
 unfold fR;split
 ·rename_i hm
  have hlt:=nN hr hm;rw[rU hr hm,A1 hr hm];generalize place (l.map AEntry.path) e.path=p at *
  rw[cT _ _ _ (by rw[Uq hlt];omega),eQ,List.set_eq_take_append_cons_drop,RJ hlt];have e1:(l.take p).length=p:=by simp;omega
  rw[Sm (by omega),Tu (by omega)];simp[RK (Ux e1)]
 ·rename_i hm
  rw[uY hm]
theorem Ez(n:Nat):decide (n<0)=false:=by simp
theorem Ax(n:Nat):decide (n<n+1)=true:=by simp
theorem qK(l:List AEntry)(key:List UInt8):(fv l key).length≤l.length:=SW _ _
theorem Cf(c:X0)(e:AEntry)(h:c.cache.length≤100000)(hr:aF (c.cache.map AEntry.path)) :
  ab prog [] 100 [c.av,e.av] (ret (X0.av ⟨c.session,c.seen,fR c.cache e⟩)):=by
 have hb:c.cache.length*40≤140737488351232:=by omega
 have hrm:=qh (key:=e.path) hr;have hnm:=Gm c.cache e.path;rw[K3 hr];obtain⟨q,dt,th⟩:=e;simp only at hrm hnm ⊢;cases th
 ·have hn:normE ⟨q,dt,false⟩=⟨q,[],false⟩:=rfl
  rw[hn];refine zJ func100 ntmps100 results100 ?_;simp only[go_sem]
  (refine zW qw (z1 (rj _ q hb)) Yj (z1 ?_)<;>(repeat with_reducible intro hc))
  generalize hm:fv c.cache q=m at *
  have hml:m.length≤100000:=by rw[←hm];exact R8 (qK _ _) h
  have hP1:=fun j=>@lw m q j
  have hP2:=fun j=>@qm m q j hrm hnm
  have hPl:=nC (l:=m) (key:=q);generalize place (m.map AEntry.path) q=P at *
  refine Xa (Xf 5 3 rfl) ?_;simp only[go_sem];refine W9 (ι:=Nat) (fun i=>i≤m.length) (fun i=>m.length-i) [2,3,4,17,18] (fun i=>[(19,I i),(6,B (decide (P<i))),(5,.osl 3 3 0 (jY m P i ⟨q,[],false⟩).length)]) (fun i=>[.cells [I c.session,I c.seen,.d (.sl 3 (c.cache.map AEntry.row))],.cells [.d (.str q),.d (.str []),.d (.bool false)],.cells [I 0,I 0,.d (.sc (.slice none 0 0))],.rows 3 ((jY m P i ⟨q,[],false⟩).map AEntry.row)]) 0 ?_ ?_ ?_
  ·omega
  ·simp only[go_sem,ww,Ez];exact zSm Yj
  intro i hi;have hil:=Bc m P i ⟨q,[],false⟩ hi;simp only[go_sem]
  (refine zW qw zn (zx @AEntry.rgetD (zx @ay (zx @eE (zx @AEntry.rsnoc @ey)))) (z4 ?_ ?_ ?_ ?_)<;>(repeat with_reducible intro hc))
  ·have hPi:P=i:=Sh fun h1=>hc.2.1 (hP1 i (by omega))
   subst hPi;refine Zq (P+1) ?_;rw[←E8 _ _ _ (by assumption)];exact zFr [0,1,2,8] (zx @List.length_append.{0} @Ax)
  ·refine Zq (i+1) ?_
   by_cases hPi:P<i
   ·have e0:decide (P<i)=true:=decide_eq_true hPi
    have e1:decide (P<i+1)=true:=decide_eq_true (by omega);rw[←rS _ _ _ _ hPi (by assumption)];exact zFr [0,1,2,6] (zx @List.length_append.{0} (zx @e1 @e0))
   ·have hlt:i<P:=Sh fun h1=>by
     have h2:=hP2 i (by omega) (by assumption);rcases hc with c|c|c
     ·exact hPi c
     ·exact Sw _ (Tk c h2)
     ·rw[c] at h2;exact Sw _ h2
    have e1:decide (P<i+1)=decide (P<i):=by rw[R0 (by omega),R0 (by omega)]
    rw[←rJ _ _ _ _ hlt (by assumption)];exact zFr [0,1,2,6] (zx @List.length_append.{0} @e1)
  ·have e1:i=m.length:=by omega
   have e2:P=m.length:=by omega
   subst e1;subst e2;rw[←wS];exact zEe (zx @List.length_append.{0} @eE)
  ·have e1:i=m.length:=by omega
   subst e1;rw[←B4 _ _ _ hc];exact zEe Yj
 ·have hn:normE ⟨q,dt,true⟩=⟨q,dt,true⟩:=rfl
  rw[hn];refine zJ func100 ntmps100 results100 ?_;simp only[go_sem]
  (refine zW qw (z1 (rj _ q hb)) Yj (z1 ?_)<;>(repeat with_reducible intro hc))
  generalize hm:fv c.cache q=m at *
  have hml:m.length≤100000:=by rw[←hm];exact R8 (qK _ _) h
  have hP1:=fun j=>@lw m q j
  have hP2:=fun j=>@qm m q j hrm hnm
  have hPl:=nC (l:=m) (key:=q);generalize place (m.map AEntry.path) q=P at *
  refine Xa (Xf 5 3 rfl) ?_;simp only[go_sem];refine W9 (ι:=Nat) (fun i=>i≤m.length) (fun i=>m.length-i) [2,3,4,17,18] (fun i=>[(19,I i),(6,B (decide (P<i))),(5,.osl 3 3 0 (jY m P i ⟨q,dt,true⟩).length)]) (fun i=>[.cells [I c.session,I c.seen,.d (.sl 3 (c.cache.map AEntry.row))],.cells [.d (.str q),.d (.str dt),.d (.bool true)],.cells [I 0,I 0,.d (.sc (.slice none 0 0))],.rows 3 ((jY m P i ⟨q,dt,true⟩).map AEntry.row)]) 0 ?_ ?_ ?_
  ·omega
  ·simp only[go_sem,ww,Ez];exact zSm Yj
  intro i hi;have hil:=Bc m P i ⟨q,dt,true⟩ hi;simp only[go_sem]
  (refine zW qw zn (zx @AEntry.rgetD (zx @ay (zx @eE (zx @AEntry.rsnoc @ey)))) (z4 ?_ ?_ ?_ ?_)<;>(repeat with_reducible intro hc))
  ·have hPi:P=i:=Sh fun h1=>hc.2.1 (hP1 i (by omega))
   subst hPi;refine Zq (P+1) ?_;rw[←E8 _ _ _ (by assumption)];exact zFr [0,1,2,8] (zx @List.length_append.{0} @Ax)
  ·refine Zq (i+1) ?_
   by_cases hPi:P<i
   ·have e0:decide (P<i)=true:=decide_eq_true hPi
    have e1:decide (P<i+1)=true:=decide_eq_true (by omega);rw[←rS _ _ _ _ hPi (by assumption)];exact zFr [0,1,2,6] (zx @List.length_append.{0} (zx @e1 @e0))
   ·have hlt:i<P:=Sh fun h1=>by
     have h2:=hP2 i (by omega) (by assumption);rcases hc with c|c|c
     ·exact hPi c
     ·exact Sw _ (Tk c h2)
     ·rw[c] at h2;exact Sw _ h2
    have e1:decide (P<i+1)=decide (P<i):=by rw[R0 (by omega),R0 (by omega)]
    rw[←rJ _ _ _ _ hlt (by assumption)];exact zFr [0,1,2,6] (zx @List.length_append.{0} @e1)
  ·have e1:i=m.length:=by omega
   have e2:P=m.length:=by omega
   subst e1;subst e2;rw[←wS];exact zEe (zx @List.length_append.{0} @eE)
  ·have e1:i=m.length:=by omega
   subst e1;rw[←B4 _ _ _ hc];exact zEe Yj
theorem IM{s:Int}{l:List AEntry}(n:XX)(hr:aF (l.map AEntry.path)):aF ((lR s l n).map AEntry.path)∧(lR s l n).length≤l.length:=by
 unfold lR;split
 ·exact⟨qh hr,qK _ _⟩
 ·exact⟨hr,RP _⟩
theorem tI{s:Int}:∀(ns:List XX) {l:List AEntry},aF (l.map AEntry.path)→aF ((dZ s l ns).map AEntry.path)∧(dZ s l ns).length≤l.length
 |[],_,hr=>⟨hr,RP _⟩
 | n::ns,l,hr=>by
   obtain⟨h1,h2⟩:=IM (s:=s) n hr;obtain⟨h3,h4⟩:=tI (s:=s) ns h1;exact⟨h3,R8 h4 h2⟩
theorem gL(s:Int)(l:List AEntry)(ns:List XX)(k:Nat)(h:k<ns.length):dZ s l (ns.take (k+1))=lR s (dZ s l (ns.take k)) (ns.getD k default):=by unfold dZ;rw[aN _ _ h,Tz];rfl
theorem vF{s:Int}{l:List AEntry}{n:XX}(h:¬ (n.session=s∧n.event.kind≠4)):lR s l n=l:=by unfold lR;rw[RI h]
theorem rh{s:Int}{l:List AEntry}{n:XX}(h:n.session=s∧n.event.kind≠4):lR s l n=fv l n.event.path:=by unfold lR;rw[RJ h]
theorem uS(s:Int)(l:List AEntry):dZ s l []=l:=rfl
theorem D6(c:X0)(l:List XX)(h:c.cache.length≤100000)(hl:l.length*32≤140737488351232)(hr:aF (c.cache.map AEntry.path)) :
  ab prog [] 160 [c.av,.d (.sl 3 (l.map XX.row))] (ret (X0.av ⟨c.session,c.seen,dZ c.session c.cache l⟩)):=by
 have hb:c.cache.length*40≤140737488351232:=by omega
 refine zJ func160 ntmps160 results160 ?_;simp only[go_sem];refine zW qw (z1 (pT c hb)) Yj (z1 ?_);refine W9 (ι:=Nat) (fun k=>k≤l.length) (fun k=>l.length-k) [2,4,9,10] (fun k=>[(11,I k)]) (fun k=>[.cells [I c.session,I c.seen,.d (.sl 3 ((dZ c.session c.cache (l.take k)).map AEntry.row))],.cells [I 0,I 0,.d (.sc (.slice none 0 0))]]) 0 ?_ ?_ ?_
 ·omega
 ·simp only[go_sem,uS];exact zSm Yj
 intro k hk;obtain⟨hr1,hn1⟩:=tI (s:=c.session) (l.take k) hr;have hb1:(dZ c.session c.cache (l.take k)).length*40≤140737488351232:=by omega
 simp only[go_sem]
 (refine zW qw (z1 (rj (dZ c.session c.cache (l.take k)) (l.getD k default).event.path hb1)) @XX.rgetD (z3 ?_ ?_ ?_)<;>(repeat with_reducible intro hc))
 ·refine Zq (k+1) ?_
  rw[gL _ _ _ _ (by assumption),rh (by assumption)];exact zFr [0,1] Yj
 ·refine Zq (k+1) ?_
  rw[gL _ _ _ _ (by assumption),vF (fun h=>hc.elim (fun x=>x h.1) (fun x=>h.2 x))];exact zFr [0,1] Yj
 ·have e:k=l.length:=by omega
  subst e;simp only[R7];exact zEe Yj
theorem Ce(l:List X3)(B:Int)(hB:0≤B)(he:∀ k,k<l.length→(l.getD k default).epoch≤B∧epZ (aA (l.getD k default).log)≤B):∀ n,n≤l.length→
  (∀ k,k<n→aA (l.getD k default).log≤aA (l.getD (cj l n).1 default).log)∧(∀ k,k<n→(l.getD k default).epoch≤(cj l n).2)∧0≤(cj l n).2∧(cj l n).2≤B∧((cj l n).1<n∨(cj l n).1=0)
 |0,_=>⟨fun k h=>absurd h (by omega),fun k h=>absurd h (by omega),SP _,hB,.inr rfl⟩
 | n + 1,hn=>by
   obtain⟨h1,h2,h3,h4,h5⟩:=Ce l B hB he n (by omega);obtain⟨e1,e2⟩:=he n (by omega);rw[show cj l (n+1)=(if lx (l.getD n default) (l.getD (cj l n).1 default) then n else(cj l n).1,mx (mx (cj l n).2 (l.getD n default).epoch) (epZ (aA (l.getD n default).log))) from rfl];simp only;generalize cj l n=q at h1 h2 h3 h4 h5 ⊢
   have hm1:q.2≤mx (mx q.2 (l.getD n default).epoch) (epZ (aA (l.getD n default).log))∧(l.getD n default).epoch≤mx (mx q.2 (l.getD n default).epoch) (epZ (aA (l.getD n default).log))∧mx (mx q.2 (l.getD n default).epoch) (epZ (aA (l.getD n default).log))≤B:=by
    unfold mx
    repeat' split
    all_goals omega
   refine⟨fun k hk=>?_,fun k hk=>?_,by omega,hm1.2.2,?_⟩
   ·by_cases ha:lx (l.getD n default) (l.getD q.1 default)=true
    ·rw[RJ ha]
     by_cases e:k=n
     ·subst e;exact SP _
     ·have:=h1 k (by omega)
      unfold lx at ha;simp only[SQ,RU,RN] at ha;omega
    ·rw[RI ha]
     by_cases e:k=n
     ·subst e
      unfold lx at ha;simp only[SQ,RU,RN] at ha;omega
     ·exact h1 k (by omega)
   ·by_cases e:k=n
    ·subst e;exact hm1.2.1
    ·have:=h2 k (by omega);omega
   ·split
    ·exact .inl (by omega)
    ·omega
theorem nZ{l:List X3}(h:∀ i,i<l.length→fU l i=0):∀ n,n≤l.length→bB l n=0
 |0,_=>rfl
 | n+1,hn=>by
   rw[bB,RJ (nZ h n (by omega))];exact h n (by omega)
theorem JM{l:List X3}{B:Int}(hB:0≤B)(hB2:B<2147483647)(hr:List.Pairwise (fun a b:X3=>a.id<b.id) l)(hi:∀ p,p∈l→0≤p.id∧p.id<3∧0≤p.epoch∧p.epoch≤B∧epZ (aA p.log)≤B) :
  (l.length<2→bS l=(0,0,14))∧(2≤l.length→∃(b:Nat) (ep:Int),bS l=((b:Int),ep,0)∧b<l.length∧(∀ p,p∈l→aA p.log≤aA (l.getD b default).log∧p.epoch<ep)∧ep≤B+1):=by
 have hin:∀ k,k<l.length→l.getD k default∈l:=fun k hk=>aZ l k hk
 have herr:∀ i,i<l.length→fU l i=0:=fun i h=>by
  have ht:vw l i=false:=by
   unfold vw;rw[Vp];intro q hq;obtain⟨k,hk,rfl⟩:=Tm hq;rw[RV] at hk
   have:=SZ.1 hr k i (by omega) h (by omega);rw[UY,RG,RH h];simp only[Option.getD_some,RN];omega
  have hb:iD (l.getD i default)=false:=by have:=hi _ (hin i h);unfold iD;simp only[U2,RR];omega
  unfold fU;rw[ht,hb];rfl
 have h0:=nZ herr l.length (RP _);obtain⟨b1,b2,b3,b4,b5⟩:=Ce l B hB (fun k hk=>by have:=hi _ (hin k hk);omega) l.length (RP _);refine⟨fun h=>?_,fun h=>⟨(cj l l.length).1,(cj l l.length).2+1,?_,by omega,fun p hp=>?_,by omega⟩⟩
 ·unfold bS;rw[RJ h0,RJ h]
 ·unfold bS;rw[RJ h0,RI (by omega),RI (by omega)]
 ·obtain⟨k,hk,rfl⟩:=Tm hp
  have e:l[k]=l.getD k default:=by rw[RG,RH hk];rfl
  rw[e];exact⟨b1 k hk,by have:=b2 k hk;omega⟩
def eV(L:List (List UInt8))(p:List UInt8):Nat:=L.countP fun q=>decide (dirP q=p)
structure PsOk (L:List (List UInt8)):Prop where
 rises:aF L
 root:[47]∈L
 len:L.length≤400
 good:∀ q,q∈L→br q=true
 up:∀ q,q∈L→q=[47]∨dirP q∈L
structure Yf (L:List (List UInt8)) (ss:List Int) (z C:Int) (n:XU):Prop where
 data:n.data.length≤256
 v:0≤n.stat.version∧n.stat.version≤2147483647
 cv:0≤n.stat.cversion∧n.stat.cversion≤C
 zs:0≤n.stat.czxid∧n.stat.czxid≤n.stat.mzxid∧n.stat.czxid≤n.stat.pzxid∧n.stat.mzxid≤z∧n.stat.pzxid≤z
 own:n.stat.owner≠0→n.stat.owner∈ss∧n.stat.kids=0
 root:n.path=[47]→n.stat.owner=0
 kids:n.stat.kids=eV L n.path
theorem FU(t:XW)(k:Nat):mw t k=dirP (nd t k).path:=rfl
theorem y4(t:XW)(p:List UInt8):∀ n,n≤t.nodes.length→kidsN t p n=eV ((ar t).take n) p
 |0,_=>rfl
 | n + 1,h=>by
   rw[jA,y4 t p n (by omega)];unfold eV;have e:(ar t).take (n+1)=(ar t).take n++[(nd t n).path]:=by rw[UX,←aR,RG];rw[RH (by rw[aK];omega)];rfl
   rw[e,UQ,FU];congr 1
   by_cases e2:dirP (nd t n).path=p
   ·rw[RJ e2,Vh (by simpa using e2)];rfl
   ·rw[RI e2,Vi (by simpa using e2)];rfl
theorem K8{q:List UInt8}(h:br q=true):¬ q < [47]:=by
 have h47:∃ r,q=47::r:=by
  unfold br at h;rw[SQ,RU,RU,RN,RN,RN] at h;rcases h with h|h
  ·exact⟨[],h⟩
  ·rcases q with _|⟨a,r⟩
   ·simp at h
   ·have:=h.2.1.2
    rw[Tl,Tf] at this;injection this with this;exact⟨r,by rw[this]⟩
 obtain⟨r,rfl⟩:=h47;intro hl;rcases List.cons_lt_cons_iff.1 hl with h|h
 ·exact absurd h (by decide)
 ·exact absurd h.2 (List.not_lt_nil _)
theorem GZ:br []=false:=by decide
theorem Kf{ns:List XU}{n:XU}(h:n∈ns):n.path∈pathsN ns:=Uc h
theorem mW{t:XW}{k:Nat}(h:k<t.nodes.length):nd t k∈t.nodes:=aZ t.nodes k h
theorem zy{t:XW}(h:aS t=true):PsOk (ar t)∧∀ n,n∈t.nodes→Yf (ar t) t.sessions t.zxid 2147483647 n:=by
 obtain⟨⟨a1,a2,a3,a4,a5⟩,b,c,d⟩:=bi.1 h;have hr:=aE h;refine⟨⟨hr,?_,by rw[aK];exact a2,fun q hq=>?_,fun q hq=>?_⟩,fun n hn=>?_⟩
 ·rw[←a3];exact Uc (mW (by omega))
 ·obtain⟨n,hn,rfl⟩:=SV.1 hq
  obtain⟨k,hk,rfl⟩:=(aM t.nodes default n).1 hn;exact(c k hk).1
 ·obtain⟨n,hn,rfl⟩:=SV.1 hq
  obtain⟨k,hk,rfl⟩:=(aM t.nodes default n).1 hn;rcases(d k hk).2.2.1 with e|e
  ·subst e;exact .inl a3
  ·exact .inr e
 ·obtain⟨k,hk,rfl⟩:=(aM t.nodes default n).1 hn
  obtain⟨d1,d2,d3,d4⟩:=d k hk;obtain⟨s1,s2,s3,s4,s5,s6,s7,s8,s9⟩:=d1;refine⟨(c k hk).2.1,⟨s1,s2⟩,⟨s3,s4⟩,⟨s5,s6,s7,s8,s9⟩,d2,fun e=>?_,?_⟩
  ·by_cases e0:k=0
   ·subst e0;exact a4
   ·exfalso
    have:=aV hr (i:=0) (j:=k) (by omega) (by rw[aK];exact hk);rw[aR,aR,a3] at this
    change(nd t k).path=[47] at e
    rw[e] at this;exact Sw _ this
  ·show(nd t k).stat.kids=_
   rw[d4,y4 t _ _ (RP _),RK (by rw[aK];exact RP _)];rfl
theorem kv{t:XW}(hz:bd t.zxid)(hs:∀ k,k<t.sessions.length→eK t.sessions k)(hp:PsOk (ar t))(hn:∀ n,n∈t.nodes→Yf (ar t) t.sessions t.zxid 2147483647 n):aS t=true:=by
 have hl:=hp.len;rw[aK] at hl;have hpos:1≤t.nodes.length:=by have:=List.length_pos_of_mem hp.root;rw[aK] at this;omega
 have hq:∀ k,k<t.nodes.length→(nd t k).path∈ar t:=fun k hk=>Uc (mW hk)
 have h0:(nd t 0).path=[47]:=by
  obtain⟨k,hk,e⟩:=(aM (ar t) [] [47]).1 hp.root
  by_cases e0:k=0
  ·subst e0;rw[←aR];exact e
  ·exfalso
   have:=aV hp.rises (i:=0) (j:=k) (by omega) hk;rw[e,aR] at this;exact K8 (hp.good _ (hq 0 (by omega))) this
 refine bi.2 ⟨⟨hpos,hl,h0,(hn _ (mW (by omega))).root h0,hz⟩,hs,fun k hk=>⟨hp.good _ (hq k hk),(hn _ (mW hk)).data,fun hk0=>?_⟩,fun k hk=>?_⟩
 ·have:=hp.rises (k-1) (by rw[aK];omega)
  rwa[aR,aR,Nat.sub_add_cancel hk0] at this
 ·have h:=hn _ (mW hk)
  obtain⟨z1,z2,z3,z4,z5⟩:=h.zs;refine⟨⟨h.v.1,h.v.2,h.cv.1,h.cv.2,z1,z2,z3,z4,z5⟩,h.own,?_,?_⟩
  ·rcases hp.up _ (hq k hk) with e|e
   ·left
    apply Sh;intro e0
    have:=aV hp.rises (i:=0) (j:=k) (by omega) (by rw[aK];exact hk);rw[aR,aR,h0,e] at this;exact Sw _ this
   ·exact .inr e
  ·rw[h.kids,y4 t _ _ (RP _),RK (by rw[aK];exact RP _)]
theorem Ck{L:List (List UInt8)}{i:Nat}(hi:i<L.length)(q:List UInt8):eV (L.eraseIdx i) q+(if dirP (L.getD i [])=q then 1 else 0)=eV L q:=by
 have e:L=L.take i++L.getD i []::L.drop (i+1):=by rw[RG,RH hi];simp
 unfold eV
 conv=>rhs;rw[e]
 rw[eQ,UQ,UQ]
 by_cases h:dirP (L.getD i [])=q
 ·rw[RJ h,Vh (by simpa using h)];omega
 ·rw[RI h,Vi (by simpa using h)];omega
theorem FK{L:List (List UInt8)}{i:Nat}(hi:i≤L.length)(p q:List UInt8):eV (L.insertIdx i p) q=eV L q+(if dirP p=q then 1 else 0):=by
 unfold eV
 conv=>rhs;rw[←SN i L]
 rw[cT _ _ _ hi,UQ,UQ]
 by_cases h:dirP p=q
 ·rw[RJ h,Vh (by simpa using h)];omega
 ·rw[RI h,Vi (by simpa using h)];omega
theorem vh(L:List (List UInt8))(q:List UInt8):eV L q≤L.length:=List.countP_le_length
theorem xa{L:List (List UInt8)}{p:List UInt8}(h:p∈L):0<eV L (dirP p):=WS.2 ⟨p,h,by simp⟩
theorem fT(ns:List XU)(i:Nat):(pathsN ns).getD i []=(ns.getD i default).path:=cW XU.path ns i default
theorem uL{ns:List XU}(hr:aF (pathsN ns)){i:Nat}{n m:XU}(hi:i<ns.length)(h:m∈ns.set i n):m=n∨(m∈ns∧m.path≠(ns.getD i default).path):=by
 obtain⟨j,hj,rfl⟩:=Tm h;rw[R3] at hj;rw[Wk];split
 ·exact .inl rfl
 ·rename_i e
  refine .inr ⟨SD _,fun e2=>?_⟩;have ej:ns[j].path=(pathsN ns).getD j []:=by rw[fT,RG,RH hj];rfl
  rw[ej,←fT] at e2;have hl:=ao ns;rcases TO e with h1|h1
  ·have:=aV hr h1 (by omega);rw[e2] at this;exact Sw _ this
  ·have:=aV hr h1 (by omega);rw[e2] at this;exact Sw _ this
theorem DR{ns:List XU}(hr:aF (pathsN ns)){i:Nat}{m:XU}(hi:i<ns.length)(h:m∈ns.eraseIdx i):m∈ns∧m.path≠(ns.getD i default).path:=by
 refine⟨TM h,fun e2=>?_⟩;rw[VD] at h;obtain⟨j,hj,hne,e⟩:=h;have ej:m.path=(pathsN ns).getD j []:=by rw[fT,RG,RH hj,←e];rfl
 rw[ej,←fT] at e2;have hl:=ao ns;rcases TO hne with h1|h1
 ·have:=aV hr h1 (by omega);rw[e2] at this;exact Sw _ this
 ·have:=aV hr h1 (by omega);rw[e2] at this;exact Sw _ this
theorem BO{L:List (List UInt8)}{p:List UInt8}(hr:aF L)(h:p∈L){q:List UInt8}:q∈L.eraseIdx (place L p)↔q∈L∧q≠p:=by
 have hf:=ag hr h;constructor
 ·intro hq
  refine⟨TM hq,fun e=>?_⟩;subst e;rw[VD] at hq;obtain⟨j,hj,hne,e⟩:=hq;have ej:L.getD j []=q:=by rw[RG,RH hj];exact e
  have hpl:=hf.1;rcases TO hne with h1|h1
  ·have:=aV hr h1 (by omega);rw[hf.2,ej] at this;exact Sw _ this
  ·have:=aV hr h1 (by omega);rw[hf.2,ej] at this;exact Sw _ this
 ·intro hq
  exact gP hq.1 (by rw[hf.2];exact fun e=>hq.2 e.symm)
theorem gT{z:Int}(h0:-9223372036854775808≤z)(h1:z<9223372036854775808):IntKind.i64.wrap z=z:=by rw[UG];omega
theorem JQ:dirP [47]=[]:=by unfold dirP;rw[lD]
theorem Ij{ns:List XU}{ss:List Int}{z C:Int}(hp:PsOk (pathsN ns))(hn:∀ n,n∈ns→Yf (pathsN ns) ss z C n){p:List UInt8}(hm:p∈pathsN ns)(h47:p≠[47])(hk:eV (pathsN ns) p=0){z':Int}(hz:z≤z')(hC:C<4294967296) :
  pathsN (fA ns p z')=(pathsN ns).eraseIdx (place (pathsN ns) p)∧PsOk (pathsN (fA ns p z'))∧∀ n,n∈fA ns p z'→Yf (pathsN (fA ns p z')) ss z' (C+1) n∧∃ m,m∈ns∧m.path=n.path∧m.stat.owner=n.stat.owner:=by
 have hr:=hp.rises;have hf:=ag hr hm;have hi:place (pathsN ns) p<ns.length:=by have:=hf.1;rwa[ao] at this
 have e1:pathsN (fA ns p z')=(pathsN ns).eraseIdx (place (pathsN ns) p):=by unfold fA;rw[oN,cq]
 have hmem:=fun q=>BO hr hm (q:=q)
 have hdm:dirP p∈pathsN ns:=(hp.up p hm).resolve_left h47;have hdn:dirP p≠p:=Dc (hp.good p hm) h47;have hdm2:dirP p∈(pathsN ns).eraseIdx (place (pathsN ns) p):=(hmem _).2 ⟨hdm,hdn⟩;have hr2:=gi hr (place (pathsN ns) p);have hno:∀ q,q∈pathsN ns→dirP q≠p:=fun q hq e=>by have:=xa hq;rw[e] at this;omega
 have hct:∀ q,eV ((pathsN ns).eraseIdx (place (pathsN ns) p)) q+(if dirP p=q then 1 else 0)=eV (pathsN ns) q:=fun q=>by have:=Ck hf.1 q;rwa[hf.2] at this
 refine⟨e1,?_,?_⟩
 ·rw[e1]
  refine⟨hr2,(hmem _).2 ⟨hp.root,fun e=>h47 e.symm⟩,?_,fun q hq=>hp.good q ((hmem q).1 hq).1,fun q hq=>?_⟩
  ·have:=hp.len;rw[cP _ _ hf.1];omega
  ·have hq1:=((hmem q).1 hq).1
   exact(hp.up q hq1).imp id fun h=>(hmem _).2 ⟨h,hno q hq1⟩
 ·intro n hnm
  rw[e1];unfold fA kj at hnm;rw[RJ (by rw[cq];exact hdm2),cq] at hnm;have hf2:=ag hr2 hdm2;have hlen:(ns.eraseIdx (place (pathsN ns) p)).length=((pathsN ns).eraseIdx (place (pathsN ns) p)).length:=by rw[←cq,ao]
  have hi2:place ((pathsN ns).eraseIdx (place (pathsN ns) p)) (dirP p)<(ns.eraseIdx (place (pathsN ns) p)).length:=by rw[hlen];exact hf2.1
  have hpd:((ns.eraseIdx (place (pathsN ns) p)).getD (place ((pathsN ns).eraseIdx (place (pathsN ns) p)) (dirP p)) default).path=dirP p:=by rw[←fT,cq];exact hf2.2
  have hd0:=aZ (ns.eraseIdx (place (pathsN ns) p)) _ hi2;rcases uL (by rw[cq];exact hr2) hi2 hnm with e|⟨h1,h2⟩
  ·generalize (ns.eraseIdx (place (pathsN ns) p)).getD (place ((pathsN ns).eraseIdx (place (pathsN ns) p)) (dirP p)) default=d at hpd hd0 e
   have hdn2:=TM hd0;have ho:=hn d hdn2;have hpos:=xa hm;have hle:=vh (pathsN ns) (dirP p);have hl4:=hp.len;have hkd:=ho.kids;rw[hpd] at hkd;have how:d.stat.owner=0:=by apply Sh;intro h;have:=(ho.own h).2;omega
   have hc:=hct (dirP p);rw[RJ rfl] at hc;subst e;have hcv:=ho.cv;have hzs:=ho.zs;refine⟨⟨ho.data,ho.v,⟨?_,?_⟩,?_,fun h=>absurd how h,fun h=>how,?_⟩,d,hdn2,rfl,rfl⟩
   ·show 0≤IntKind.i64.wrap (d.stat.cversion+1)
    rw[gT (by omega) (by omega)];omega
   ·show IntKind.i64.wrap (d.stat.cversion+1)≤C+1
    rw[gT (by omega) (by omega)];omega
   ·show 0≤d.stat.czxid∧d.stat.czxid≤d.stat.mzxid∧d.stat.czxid≤z'∧d.stat.mzxid≤z'∧z'≤z'
    omega
   ·show IntKind.i64.wrap (d.stat.kids+-1)=_
    rw[gT (by omega) (by omega)];show _=((eV _ d.path:Nat):Int);rw[hpd];omega
  ·obtain⟨h3,h4⟩:=DR hr hi h1
   rw[hpd] at h2;have ho:=hn n h3;have hc:=hct n.path;rw[RI (fun e=>h2 e.symm)] at hc;have hcv:=ho.cv;have hzs:=ho.zs;exact⟨⟨ho.data,ho.v,by omega,by omega,ho.own,ho.root,by rw[ho.kids];omega⟩,n,h3,rfl,rfl⟩
theorem Yf.more{L:List (List UInt8)}{ss ss':List Int}{z z' C:Int}{n:XU}(h:Yf L ss z C n)(hz:z≤z')(hs:∀ s,s∈ss→s∈ss'):Yf L ss' z' C n:=
 ⟨h.data,h.v,h.cv,by have:=h.zs;omega,fun h0=>⟨hs _ (h.own h0).1,(h.own h0).2⟩,h.root,h.kids⟩
theorem PL{ns:List XU}{ss:List Int}{z C:Int}(hp:PsOk (pathsN ns))(hn:∀ n,n∈ns→Yf (pathsN ns) ss z C n){x:ATxn}(hm:¬ x.path∈pathsN ns)(hg:br x.path=true)(h47:x.path≠[47])(hd:dirP x.path∈pathsN ns)(hdata:x.data.length≤256)
  (hl:ns.length<400) (hown:∀ n,n∈ns→n.path=dirP x.path→n.stat.owner=0) (hxo:x.owner≠0→x.owner∈ss) (hz:z≤x.zxid) (hz0:0≤x.zxid) (hC:C<4294967296) (hC0:0≤C) :
  PsOk (pathsN (qk ns x))∧∀ n,n∈qk ns x→Yf (pathsN (qk ns x)) ss x.zxid (C+1) n:=by
 have hr:=hp.rises;have hpl:=eT (pathsN ns) x.path;have hpl2:place (pathsN ns) x.path≤ns.length:=by rwa[ao] at hpl
 have e1:pathsN (qk ns x)=(pathsN ns).insertIdx (place (pathsN ns) x.path) x.path:=by unfold qk;rw[oN,lH];rfl
 have hmem:=fun q=>yt (y:=q) (x:=x.path) hpl
 have hr2:=nk hr hm;have hdn:dirP x.path≠x.path:=Dc hg h47;have hct:∀ q,eV ((pathsN ns).insertIdx (place (pathsN ns) x.path) x.path) q=eV (pathsN ns) q+(if dirP x.path=q then 1 else 0):=fun q=>FK hpl x.path q
 have hd2:dirP x.path∈(pathsN ns).insertIdx (place (pathsN ns) x.path) x.path:=(hmem _).2 (.inr hd)
 have hkx:eV (pathsN ns) x.path=0:=by
  apply Sh;intro h;obtain⟨q,hq,hq2⟩:=WS.1 (Nat.pos_of_ne_zero h);have hq2:dirP q=x.path:=by simpa using hq2
  rcases hp.up q hq with e|e
  ·rw[e,JQ] at hq2
   rw[←hq2,GZ] at hg;cases hg
  ·rw[hq2] at e;exact hm e
 refine⟨?_,?_⟩
 ·rw[e1]
  refine⟨hr2,(hmem _).2 (.inr hp.root),?_,fun q hq=>?_,fun q hq=>?_⟩
  ·rw[dD _ _ _ hpl,ao];omega
  ·rcases(hmem q).1 hq with e|e
   ·rw[e];exact hg
   ·exact hp.good q e
  ·rcases(hmem q).1 hq with e|e
   ·rw[e];exact .inr hd2
   ·exact(hp.up q e).imp id fun h=>(hmem _).2 (.inr h)
 ·intro n hnm
  rw[e1];unfold qk kj at hnm;have ep:pathsN (ns.insertIdx (place (pathsN ns) x.path) (mkN x))=(pathsN ns).insertIdx (place (pathsN ns) x.path) x.path:=by rw[lH];rfl
  rw[ep,RJ hd2] at hnm;have hf2:=ag hr2 hd2;have hi2:place ((pathsN ns).insertIdx (place (pathsN ns) x.path) x.path) (dirP x.path)<(ns.insertIdx (place (pathsN ns) x.path) (mkN x)).length:=by rw[←ao,ep];exact hf2.1
  have hpd:((ns.insertIdx (place (pathsN ns) x.path) (mkN x)).getD (place ((pathsN ns).insertIdx (place (pathsN ns) x.path) x.path) (dirP x.path)) default).path=dirP x.path:=by rw[←fT,ep];exact hf2.2
  have hd0:=aZ (ns.insertIdx (place (pathsN ns) x.path) (mkN x)) _ hi2;rcases uL (by rw[ep];exact hr2) hi2 hnm with e|⟨h1,h2⟩
  ·generalize (ns.insertIdx (place (pathsN ns) x.path) (mkN x)).getD (place ((pathsN ns).insertIdx (place (pathsN ns) x.path) x.path) (dirP x.path)) default=d at hpd hd0 e
   rcases(T0 hpl2).1 hd0 with hdx|hdn2
   ·rw[hdx] at hpd;exact absurd hpd.symm hdn
   have ho:=hn d hdn2;have how:=hown d hdn2 hpd;have hle:=vh (pathsN ns) (dirP x.path);have hl4:=hp.len;have hkd:=ho.kids;rw[hpd] at hkd;have hc:=hct (dirP x.path);rw[RJ rfl] at hc;subst e;have hcv:=ho.cv;have hzs:=ho.zs;refine⟨ho.data,ho.v,⟨?_,?_⟩,?_,fun h=>absurd how h,fun h=>how,?_⟩
   ·show 0≤IntKind.i64.wrap (d.stat.cversion+1)
    rw[gT (by omega) (by omega)];omega
   ·show IntKind.i64.wrap (d.stat.cversion+1)≤C+1
    rw[gT (by omega) (by omega)];omega
   ·show 0≤d.stat.czxid∧d.stat.czxid≤d.stat.mzxid∧d.stat.czxid≤x.zxid∧d.stat.mzxid≤x.zxid∧x.zxid≤x.zxid
    omega
   ·show IntKind.i64.wrap (d.stat.kids+1)=((eV _ d.path:Nat):Int)
    rw[gT (by omega) (by omega),hpd];omega
  ·rw[hpd] at h2
   rcases(T0 hpl2).1 h1 with e|h3
   ·subst e
    have hc:=hct x.path;rw[RI hdn,hkx] at hc;refine⟨hdata,⟨SP _,by show(0:Int)≤2147483647;decide⟩,⟨SP _,by show 0≤C+1;omega⟩,?_,fun h=>⟨hxo h,rfl⟩,fun h=>absurd h h47,?_⟩
    ·show 0≤x.zxid∧x.zxid≤x.zxid∧x.zxid≤x.zxid∧x.zxid≤x.zxid∧x.zxid≤x.zxid
     omega
    ·show(0:Int)=((eV _ x.path:Nat):Int)
     rw[hc];rfl
   ·have ho:=hn n h3
    have hc:=hct n.path;rw[RI (fun e=>h2 e.symm)] at hc;have hcv:=ho.cv;have hzs:=ho.zs;exact⟨ho.data,ho.v,by omega,by omega,ho.own,ho.root,by rw[ho.kids];omega⟩
theorem OC{ns:List XU}{ss:List Int}{z C:Int}(hp:PsOk (pathsN ns))(hn:∀ n,n∈ns→Yf (pathsN ns) ss z C n){x:ATxn}(hm:x.path∈pathsN ns)(hdata:x.data.length≤256)(hv:0≤x.version∧x.version≤2147483647)(hz:z≤x.zxid) :
  PsOk (pathsN (setN ns x))∧∀ n,n∈setN ns x→Yf (pathsN (setN ns x)) ss x.zxid C n:=by
 have hf:=ag hp.rises hm;have hi:place (pathsN ns) x.path<ns.length:=by have:=hf.1;rwa[ao] at this
 have e1:pathsN (setN ns x)=pathsN ns:=by unfold setN;exact vE _ _ _ rfl
 refine⟨by rw[e1];exact hp,fun n hnm=>?_⟩;rw[e1];unfold setN at hnm;rcases uL hp.rises hi hnm with e|⟨h1,h2⟩
 ·have hd0:=aZ ns _ hi
  generalize ns.getD (place (pathsN ns) x.path) default=d at hd0 e;have ho:=hn d hd0;have hzs:=ho.zs;subst e;refine⟨hdata,hv,ho.cv,?_,ho.own,ho.root,ho.kids⟩;show 0≤d.stat.czxid∧d.stat.czxid≤x.zxid∧d.stat.czxid≤d.stat.pzxid∧x.zxid≤x.zxid∧d.stat.pzxid≤x.zxid;omega
 ·exact(hn n h1).more hz fun _ h=>h
theorem Yf.cap{L:List (List UInt8)}{ss:List Int}{z C:Int}{n:XU}(h:Yf L ss z C n)(hb:dN n=false):Yf L ss z 2147483647 n:=by unfold dN at hb;rw[RR] at hb;exact⟨h.data,h.v,⟨h.cv.1,by omega⟩,h.zs,h.own,h.root,h.kids⟩
theorem Em{l:List Int}:fw l↔l.Pairwise (fun a b=>a<b):=by
 have gd (j:Nat) (hj:j<l.length):l.getD j default=l[j]:=by rw[RG,RH hj];rfl
 constructor
 ·intro h
  refine SZ.2 fun i j hi hj hij=>?_
  have:=fe h hij hj;rwa[gd i hi,gd j hj] at this
 ·intro h k hk
  rw[gd k (by omega),gd (k+1) hk];exact SZ.1 h k (k+1) (by omega) hk (by omega)
theorem mg{l:List Int}:(∀ k,k<l.length→eK l k)↔fw l∧∀ s,s∈l→1≤s∧s≤2147483647:=by
 constructor
 ·intro h
  refine⟨oF h,fun s hs=>?_⟩;obtain⟨k,hk,rfl⟩:=(aM l default s).1 hs;exact⟨(h k hk).1,(h k hk).2.1⟩
 ·intro h k hk
  have:=h.2 _ (aZ l k hk);refine⟨this.1,this.2,fun h0=>?_⟩
  have:=h.1 (k-1) (by omega);rwa[Nat.sub_add_cancel h0] at this
theorem Jz{l:List Int}(h:∀ k,k<l.length→eK l k){s:Int}(hs:1≤s∧s≤2147483647)(hm:¬ s∈l):∀ k,k<(l.insertIdx (bf l s) s).length→eK (l.insertIdx (bf l s) s) k:=by
 obtain⟨h1,h2⟩:=mg.1 h;rw[←vP h1 hm];have hp:=Em.1 h1;refine mg.2 ⟨Em.2 ?_,fun q hq=>?_⟩
 ·refine List.pairwise_append.2 ⟨hp.filter _,V0.2 ⟨fun b hb=>?_,hp.filter _⟩,fun a ha b hb=>?_⟩
  ·exact Uz (TE.1 hb).2
  ·have h3:a<s:=Uz (TE.1 ha).2
   rcases RW.1 hb with e|e
   ·omega
   ·have h4:s<b:=Uz (TE.1 e).2
    omega
 ·rcases Sp.1 hq with e|e
  ·exact h2 q (TE.1 e).1
  ·rcases RW.1 e with e|e
   ·rw[e];exact hs
   ·exact h2 q (TE.1 e).1
theorem DM{l:List Int}(h:∀ k,k<l.length→eK l k){s:Int}(hm:s∈l):(∀ k,k<(l.eraseIdx (bf l s)).length→eK (l.eraseIdx (bf l s)) k)∧∀ q,q∈l→q≠s→q∈l.eraseIdx (bf l s):=by obtain⟨h1,h2⟩:=mg.1 h;rw[←nY h1 hm];refine⟨mg.2 ⟨Em.2 ((Em.1 h1).filter _),fun q hq=>h2 q (TE.1 hq).1⟩,fun q hq hne=>TE.2 ⟨hq,by simpa using hne⟩⟩
theorem qZ{t:XW}(hr:aF (ar t)){j k:Nat}(hj:j<t.nodes.length)(hk:k<t.nodes.length)(h:(nd t j).path=(nd t k).path):j=k:=by
 rw[←aR,←aR] at h;have hl:=aK t;rcases TR j k with h1|h1|h1
 ·have:=aV hr h1 (by omega);rw[h] at this;exact absurd this (Sw _)
 ·exact h1
 ·have:=aV hr h1 (by omega);rw[h] at this;exact absurd this (Sw _)
theorem xX{t:XW}(hg:aS t=true){s z:Int}(hs:s≠0)(hz:t.zxid≤z):∀ k,k≤t.nodes.length→
  PsOk (pathsN (aQ t s z k).1)∧(∀ n,n∈(aQ t s z k).1→Yf (pathsN (aQ t s z k).1) t.sessions z (2147483647+k) n∧∃ m,m∈t.nodes∧m.path=n.path∧m.stat.owner=n.stat.owner)∧
   ∀ j,j<t.nodes.length→(¬ (nd t j).path∈pathsN (aQ t s z k).1↔j<k∧(nd t j).stat.owner=s)
 | 0,_=>by
   obtain⟨h1,h2⟩:=zy hg;refine⟨h1,fun n hn=>⟨(h2 n hn).more hz fun _ h=>h,n,hn,rfl,rfl⟩,fun j hj=>⟨fun h=>absurd (Uc (mW hj)) h,fun h=>absurd h.1 (by omega)⟩⟩
 | k + 1,hk=>by
   obtain⟨h1,h2,h3⟩:=xX hg hs hz k (by omega);have hr:=aE hg;have hl4:=(cu hg).2.1
   by_cases e:(nd t k).stat.owner=s
   ·have ec:(aQ t s z (k+1)).1=fA (aQ t s z k).1 (nd t k).path z:=by
     rw[aQ];unfold nd at e;rw[RJ e];rfl
    have hm:(nd t k).path∈pathsN (aQ t s z k).1:=TA.1 fun h=>absurd ((h3 k (by omega)).1 h).1 (by omega)
    obtain⟨m,hm1,hm2⟩:=SV.1 hm;obtain⟨q1,m0,q2,q3,q4⟩:=h2 m hm1
    have howner:m.stat.owner=s:=by
     obtain⟨j,hj,rfl⟩:=(aM t.nodes default m0).1 q2
     change(nd t j).path=m.path at q3
     change(nd t j).stat.owner=m.stat.owner at q4
     rw[hm2] at q3
     have:=qZ hr hj (by omega) q3;subst this;rw[←q4];exact e
    have h47:(nd t k).path≠[47]:=fun h=>by have:=q1.root (by rw[hm2];exact h);omega
    have hk0:eV (pathsN (aQ t s z k).1) (nd t k).path=0:=by have a:=(q1.own (by omega)).2;have b:=q1.kids;rw[hm2] at b;omega
    obtain⟨d1,d2,d3⟩:=Ij h1 (fun n hn=>(h2 n hn).1) hm h47 hk0 (SP z) (by omega);rw[ec];refine⟨d2,fun n hn=>?_,fun j hj=>?_⟩
    ·obtain⟨b1,m2,b2,b3,b4⟩:=d3 n hn
     obtain⟨_,m3,c1,c2,c3⟩:=h2 m2 b2;refine⟨by rw[show(2147483647+((k+1:Nat):Int))=2147483647+(k:Int)+1 from by omega];exact b1,m3,c1,by rw[c2,b3],by rw[c3,b4]⟩
    ·rw[d1,BO h1.rises hm]
     have h3j:=h3 j hj;constructor
     ·intro h
      by_cases ej:(nd t j).path=(nd t k).path
      ·have:=qZ hr hj (by omega) ej
       subst this;exact⟨by omega,e⟩
      ·have:=h3j.1 fun hh=>h ⟨hh,ej⟩
       exact⟨by omega,this.2⟩
     ·intro h hh
      by_cases ej:j=k
      ·subst ej;exact hh.2 rfl
      ·exact h3j.2 ⟨by omega,h.2⟩ hh.1
   ·have ec:(aQ t s z (k+1)).1=(aQ t s z k).1:=by
     rw[aQ];unfold nd at e;rw[RI e]
    rw[ec];refine⟨h1,fun n hn=>⟨?_,(h2 n hn).2⟩,fun j hj=>?_⟩
    ·have:=(h2 n hn).1
     exact⟨this.data,this.v,by have:=this.cv;omega,this.zs,this.own,this.root,this.kids⟩
    ·rw[h3 j hj]
     constructor
     ·intro h;exact⟨by omega,h.2⟩
     ·intro h
      refine⟨?_,h.2⟩
      have:j≠k:=fun ej=>e (by rw[←ej];exact h.2)
      omega
theorem tU{t:XW}{x:ATxn}(h:(ah t x).2.2=0):aS (ah t x).1=true:=by
 have h0:bw t x=0:=by apply Sh;intro hw;rw[mJ hw] at h;exact hw h
 have hb:(cG t x).1.nodes.any dN=false:=by apply Sh;intro hb;rw[cU h0 (by simpa using hb)] at h;cases h
 rw[ez h0 hb];obtain⟨hg,hx,hz,w1,w2,w3,w4,w5⟩:=cm h0;obtain⟨g1,g2,g3,g4,g5,g6,g7⟩:=gg hx;obtain⟨p1,p2⟩:=zy hg;obtain⟨hhd,hss,_,_⟩:=bi.1 hg;have hl4:=hhd.2.1
 have hgz:bd x.zxid:=by
  have h9:lO x=true:=by apply Sh;intro hn;rw[ga g2 hn] at hx;cases hx
  unfold lO at h9;rw[RU,RN] at h9;exact h9.1
 have hcap:∀ n,n∈(cG t x).1.nodes→dN n=false:=fun n hn=>by have:=Vp.1 hb n hn;simpa using this
 unfold cG at hcap ⊢
 by_cases o1:x.op=1
 ·rw[RJ o1] at hcap ⊢
  have hpl:bf t.sessions x.session≤t.sessions.length:=TF;exact kv hgz (Jz hss g3 (w1 o1)) p1 fun n hn=>(p2 n hn).more (UR hz) fun s hs=>(T0 hpl).2 (.inr hs)
 have hm:=w2 o1;rw[RI o1] at hcap ⊢
 by_cases o2:x.op=2
 ·rw[RJ o2] at hcap ⊢
  obtain⟨c1,c2,c3⟩:=xX hg (s:=x.session) (z:=x.zxid) (by omega) (UR hz) t.nodes.length (RP _);obtain⟨e1,e2⟩:=DM hss hm;refine kv hgz e1 c1 fun n hn=>?_
  obtain⟨b1,m,b2,b3,b4⟩:=c2 n hn
  have hne:n.stat.owner≠x.session:=fun e=>by
   obtain⟨j,hj,rfl⟩:=(aM t.nodes default m).1 b2
   have:=(c3 j hj).2 ⟨hj,by change(nd t j).stat.owner=_ at b4;rw[b4];exact e⟩
   change(nd t j).path=_ at b3
   rw[b3] at this;exact this (Kf hn)
  have b5:=b1.cap (hcap n hn);exact⟨b5.data,b5.v,b5.cv,b5.zs,fun h=>⟨e2 _ (b5.own h).1 hne,(b5.own h).2⟩,b5.root,b5.kids⟩
 rw[RI o2] at hcap ⊢
 by_cases o3:x.op=3
 ·rw[RJ o3] at hcap ⊢
  obtain⟨q1,q2⟩:=lN hx (by omega);obtain⟨r1,r2,r3⟩:=w3 o3;have hlk:kZ t x (aw t x.path).2=0:=by unfold bw at h0;rw[RI (by rw[hg];decide),RI (fun h=>h hx),RI (by omega),RI o1,RI (fun h=>h hm),RJ o3] at h0;exact h0
  unfold kZ at hlk;rw[kS r1,RI (by decide)] at hlk;have hdz:(aw t (splitP x.path).1.1).2=0:=fk.2 r2;rw[RI (fun h=>h hdz)] at hlk;have hpo:(aw t (splitP x.path).1.1).1.stat.owner=0:=by apply Sh;intro hn;rw[RJ hn] at hlk;cases hlk
  rw[RI (fun h=>h hpo)] at hlk;have hxo:¬ (¬ x.owner=0∧¬ x.owner=x.session):=fun hn=>by rw[RJ hn] at hlk;cases hlk
  have hown:∀ n,n∈t.nodes→n.path=dirP x.path→n.stat.owner=0:=fun n hn he=>by
   obtain⟨j,hj,rfl⟩:=(aM t.nodes default n).1 hn
   change(nd t j).path=_ at he
   change(nd t j).stat.owner=0
   have hf:=ag (aE hg) r2;unfold aw at hpo;rw[RJ (show(splitP x.path).1.1∈ar t from r2)] at hpo;have hpl:=hf.1;rw[aK] at hpl
   have:j=place (ar t) (splitP x.path).1.1:=qZ (aE hg) hj hpl (by rw[he,←aR];exact hf.2.symm);rw[this];exact hpo
  obtain⟨a1,a2⟩:=PL p1 p2 r1 q1 q2 r2 g7 r3 hown (fun h=>by
   have:x.owner=x.session:=Sh fun hn=>hxo ⟨h,hn⟩
   rw[this];exact hm) (UR hz) g1.1 (by decide) (by decide)
  exact kv hgz hss a1 fun n hn=>(a2 n hn).cap (hcap n hn)
 rw[RI o3] at hcap ⊢
 by_cases o4:x.op=4
 ·rw[RJ o4] at hcap ⊢
  obtain⟨q1,q2⟩:=lN hx (by omega);obtain⟨r1,r2⟩:=w4 o4;have hf:=ag (aE hg) r1;have hpl:=hf.1;rw[aK] at hpl
  have hk0:eV (pathsN t.nodes) x.path=0:=by
   have:=(p2 _ (mW hpl)).kids;unfold aw at r2;rw[RJ r1] at r2;simp only at r2;have hpe:=hf.2;rw[aR] at hpe;rw[hpe] at this
   change _=((eV (pathsN t.nodes) x.path:Nat):Int) at this
   omega
  obtain⟨d1,d2,d3⟩:=Ij p1 p2 r1 q2 hk0 (UR hz) (by decide);exact kv hgz hss d2 fun n hn=>(d3 n hn).1.cap (hcap n hn)
 rw[RI o4] at hcap ⊢;obtain⟨a1,a2⟩:=OC p1 p2 (w5 (by omega)) g7 g4 (UR hz);exact kv hgz hss a1 a2
theorem LN:ab prog [] 107 [] (ret (I 2)):=by
 refine zJ func107 ntmps107 results107 ?_;simp only[go_sem];refine zW qw zn Yj (z1 ?_)
 all_goals try(refine HR ?_ rfl ?_ ?_ ?_ ?_;(focus(first|exact .inl rfl|exact .inr rfl));(focus(simp only[go_sem,SI];first|done|omega));(focus(simp only[go_sem,SI];done));(focus(simp only[go_sem,SI];done));simp only[go_sem,SI,I,B,S,AV.d.injEq,DV.int.injEq,DV.bool.injEq,DV.str.injEq,DV.sl.injEq,AV.tup.injEq,AV.agg.injEq,Sk,WM,SI,Th])
theorem MZ(a b:X3)(h:a.log.length*72≤140737488351232)(h2:b.log.length*72≤140737488351232):ab prog [] 182 [a.av,b.av] (ret (B (lx a b))):=by
 refine zJ func182 ntmps182 results182 ?_;simp only[go_sem];refine zW qw (z2 (mX _ h) (mX _ h2)) Yj (z1 ?_)
 all_goals exact zEe @lx.eq_1
theorem Bm(l:List ATxn)(h:∀ x,x∈l→x.wf):okI (aA l):=by
 unfold aA;split
 ·exact⟨by decide,by decide⟩
 ·rename_i e;exact(h _ (aZ l _ (by have:=TY.2 e;omega))).1
theorem DZ(p:X3)(h:p.log.length*72≤140737488351232):ab prog [] 104 [p.av] (ret (.tup [I (cD p).1,I (cD p).2])):=by
 refine zJ func104 ntmps104 results104 ?_;simp only[go_sem]
 (refine zW qw (z4 (mX _ h) (ho fun z=>sL z) (D0 _ _) (ho fun z=>Pa z)) @two.eq_1 (z3 ?_ ?_ ?_)<;>(repeat with_reducible intro hc))
 all_goals(unfold cD)
 ·rw[RJ (by assumption),RJ hc];exact zEe Yj
 ·rw[RJ (by assumption),RI (fun h=>h hc)];exact zEe Yj
 ·rw[RI (by omega)];exact zEe Yj
theorem O3(e:Int):okI (mkZ e 0).1:=by
 unfold mkZ;split
 ·exact⟨by decide,by decide⟩
 ·rename_i h;unfold me at h;exact⟨by simp only;omega,by simp only;omega⟩
theorem uR(p:X3)(h:p.log.length*72≤140737488351232)(h2:∀ x,x∈p.log→x.wf):ab prog [] 101 [p.av] (ret (.tup [I (cD p).1,I (cD p).2])):=by
 refine zJ func101 ntmps101 results101 ?_;simp only[go_sem];have w1:=Bm _ h2
 (refine zW qw (zc (ref_last_c _ h) (z4 (ref_epoch_c _ w1) (lh _ _) (vL _ w1) (vL _ (O3 _)))) @two.eq_1 (z3 ?_ ?_ ?_)<;>(repeat with_reducible intro hc))
 all_goals(unfold cD)
 ·rw[RI (by omega)];exact zEe Yj
 ·rw[RJ (by assumption),RJ hc];exact zEe Yj
 ·rw[RJ (by assumption),RI (fun h=>h hc)];exact zEe Yj
def jI(p:Int×Int×Int):AV:=.tup [I p.1,I p.2.1,I p.2.2]
theorem jZ {l:List X3} {n:Nat} (h:bB l n≠0):∀ m,n≤m→bB l m=bB l n
 |0,hm=>by have:n=0:=by omega
           rw[this]
 | m + 1,hm=>by
   by_cases e:n=m+1
   ·rw[e]
   ·have:=jZ h m (by omega)
    simp only[bB];rw[this,RI h]
theorem nU{l:List X3}{i:Nat}(hi:i<l.length)(h0:bB l i=0)(h:fU l i≠0):bS l=(0,0,fU l i):=by
 have h1:bB l (i+1)=fU l i:=by simp only[bB];rw[RJ h0]
 have h2:=jZ (n:=i+1) (by rw[h1];exact h) l.length hi;unfold bS;rw[h2,h1,RI h]
theorem xm{l:List X3}{i k:Nat}(hk:k<i)(hi:i<l.length)(h:(l.getD k default).id=(l.getD i default).id):vw l i=true:=by unfold vw;rw[T1];refine⟨l.getD k default,?_,by simpa using h⟩;rw[ST];refine⟨k,by omega,?_⟩;rw[RG,RH (by omega)];rfl
theorem pX{l:List X3}{i:Nat}(hi:i<l.length)(h:∀ k,k<i→¬ (l.getD k default).id=(l.getD i default).id):vw l i=false:=by
 unfold vw;rw[Vp];intro q hq;rw[ST] at hq;obtain⟨k,hk,rfl⟩:=hq
 have:=h k (by omega);rw[RG,RH (by omega)] at this;simpa using this
theorem HY{l:List X3}{n:Nat}(h:bB l n=0):∀ i,i<n→iD (l.getD i default)=false:=by
 induction n with
 |zero=>intro i hi;omega
 | succ n ih=>
   simp only[bB] at h;split at h
   ·rename_i h0
    intro i hi
    by_cases e:i=n
    ·subst e
     unfold fU at h;split at h
     ·simp at h
     ·split at h
      ·simp at h
      ·rename_i hb;simpa using hb
    ·exact ih h0 i (by omega)
   ·contradiction
theorem Cn(z:Int):0≤epZ z∧epZ z≤2147483647:=by
 unfold epZ;split
 ·rename_i h;unfold bd at h;omega
 ·omega
theorem oc{l:List X3}{n m:Nat}(h:bB l m=0)(hn:n≤m):bB l n=0:=by
 by_cases e:bB l n=0
 ·exact e
 ·rw[jZ e m hn] at h;exact absurd h e
theorem p7{l:List X3}:∀(n:Nat),bB l n=0→0≤(cj l n).2∧(cj l n).2≤2147483647∧((cj l n).1=0∨(cj l n).1<n)
 |0,_=>⟨by simp[cj],by simp[cj],.inl rfl⟩
 | n + 1,h=>by
   have hb:=HY h n (by omega)
   have h0:bB l n=0:=by
    simp only[bB] at h;split at h
    ·assumption
    ·contradiction
   obtain⟨a,b,c⟩:=p7 n h0
   have:=Cn (aA (l.getD n default).log);simp only[iD,U2,RR] at hb;simp only[cj,mx];refine⟨by split<;>split<;>omega,by split<;>split<;>omega,?_⟩;split
   ·right;omega
   ·omega
theorem N3(l:List X3)(h:l.length≤140737488351232)(h2:∀ p,p∈l→p.log.length*72≤140737488351232):ab prog [] 113 [.d (.sl 4 (l.map X3.row))] (ret (jI (bS l))):=by
 refine zJ func113 ntmps113 results113 ?_;simp only[go_sem];refine zW qw zn Yj (z1 ?_);refine W9 (ι:=Nat) (fun i=>i≤l.length∧bB l i=0) (fun i=>l.length-i) [0,12,13] (fun i=>[(14,I i)]) (fun i=>[]) 0 ?_ ?_ ?_
 ·exact⟨by omega,rfl⟩
 ·simp only[go_sem];exact zSm Yj
 intro i ⟨hi,h0⟩;simp only[go_sem]
 (refine zW qw zn @bO (z2 ?_ ?_)<;>(try with_reducible intro(K:ASt→Prop) hK)<;>(repeat with_reducible intro hc))
 ·have hil:=hc
  refine Xd (ι:=Nat) (fun k=>k≤i∧∀ j,j<k→¬ (l.getD j default).id=(l.getD i default).id) (fun k=>i-k) [0,6,12,13,14,19] (fun k=>[(20,I k)]) 0 ?_ (by simp(disch:=omega) only[go_sem,aa,SI]) ?_
  ·exact⟨by omega,by omega⟩
  intro k ⟨hk,hk2⟩;simp only[go_sem]
  (refine zW qw zn @bO (z4 ?_ ?_ ?_ ?_)<;>(repeat with_reducible intro hc))
  ·have e1:fU l i=8:=by unfold fU;rw[RJ (xm (by omega) hil hc)]
   rw[nU hil h0 (by rw[e1];decide),e1];exact zEe @jI.eq_1
  ·refine⟨k+1,⟨by omega,fun j hj=>?_⟩,by omega,?_⟩
   ·by_cases e:j=k
    ·subst e;exact hc
    ·exact hk2 j (by omega)
   exact zSm Yj
  ·have e:k=i:=by omega
   subst e;have e1:fU l k=3:=by unfold fU;rw[RI (by rw[pX hil hk2];simp),RJ];simp only[iD,SQ,RN];exact hc
   rw[nU hil h0 (by rw[e1];decide),e1];exact zEe @jI.eq_1
  ·have e:k=i:=by omega
   subst e;have e1:fU l k=0:=by unfold fU;rw[RI (by rw[pX hil hk2];simp),RI];simp only[iD,SQ,RN];omega
   refine⟨k+1,⟨by omega,by simp only[bB];rw[RJ h0];exact e1⟩,by omega,?_⟩;exact zFr [] Yj
 have e:i=l.length:=by omega
 subst e
 (refine zW qw (z1 LN) Yj (z2 ?_ ?_)<;>(repeat with_reducible intro hc))
 ·unfold bS
  rw[RJ h0,RJ (by omega)];exact zEe @jI.eq_1
 ·have hl2:=hc
  refine W9 (ι:=Nat) (fun n=>n≤l.length) (fun n=>l.length-n) [0,55,56] (fun n=>[(8,I (cj l n).1),(9,I (cj l n).2),(57,I n)]) (fun n=>[]) 0 ?_ ?_ ?_
  ·omega
  ·simp only[go_sem];(refine zV [] rfl rfl rfl rfl ?_ ?_<;>simp(disch:=omega) only[go_sem,aa,Ss,cj]<;>(try rfl))
  intro n hn;obtain⟨b1,b2,b3⟩:=p7 n (oc h0 hn);have hb:(cj l n).1<l.length:=by omega
  have hlg:=h2 _ (aZ l _ hb);simp only[go_sem]
  (refine zW qw zn @bO (z3 ?_ ?_ ?_)<;>(try with_reducible intro(K:ASt→Prop) hK)<;>(repeat with_reducible intro hc))
  ·have hlg2:=h2 _ (aZ l _ hc)
   have:=Cn (aA (l.getD n default).log)
   (refine zW qw (z3 (MZ _ _ hlg2 hlg) (mX _ hlg2) (ho fun z=>sL z)) Yj (z2 ?_ ?_)<;>(repeat with_reducible intro hc))
   ·refine Zq (n+1) ?_
    (refine zV [] rfl rfl rfl rfl ?_ ?_<;>simp(disch:=omega) only[go_sem,aa,Ss,cj,mx,hc]<;>(try rfl))
   ·refine Zq (n+1) ?_
    (refine zV [] rfl rfl rfl rfl ?_ ?_<;>simp(disch:=omega) only[go_sem,aa,Ss,cj,mx,hc]<;>(try rfl))
  ·have e:n=l.length:=by omega
   subst e;unfold bS;rw[RJ h0,RI (by omega),RJ hc];exact zEe @jI.eq_1
  ·have e:n=l.length:=by omega
   subst e;unfold bS;rw[RJ h0,RI (by omega),RI (by omega)];exact zEe @jI.eq_1
theorem A0(l:List X3)(h:l.length≤140737488351232)(h2:∀ p,p∈l→p.log.length*72≤140737488351232)(hw:∀ p,p∈l→∀ x,x∈p.log→x.wf):ab prog [] 92 [.d (.sl 4 (l.map X3.row))] (ret (jI (bS l))):=by
 refine zJ func92 ntmps92 results92 ?_;simp only[go_sem];refine zW qw zn Yj (z1 ?_);refine W9 (ι:=Nat) (fun i=>i≤l.length∧bB l i=0) (fun i=>l.length-i) [0,14,15] (fun i=>[(16,I i)]) (fun i=>[]) 0 ?_ ?_ ?_
 ·exact⟨by omega,rfl⟩
 ·simp only[go_sem];exact zSm Yj
 intro i ⟨hi,h0⟩;simp only[go_sem]
 (refine zW qw zn @bO (z3 ?_ ?_ ?_)<;>(repeat with_reducible intro hc))
 ·have hil:=hc
  refine Xd (ι:=Nat) (fun k=>k≤i∧∀ j,j<k→¬ (l.getD j default).id=(l.getD i default).id) (fun k=>i-k) [0,5,6,14,15,16] (fun k=>[(7,I k)]) 0 ?_ (by simp(disch:=omega) only[go_sem,aa,SI]) ?_
  ·exact⟨by omega,by omega⟩
  intro k ⟨hk,hk2⟩;simp only[go_sem]
  (refine zW qw zn @bO (z4 ?_ ?_ ?_ ?_)<;>(repeat with_reducible intro hc))
  ·have e1:fU l i=8:=by unfold fU;rw[RJ (xm (by omega) hil hc)]
   rw[nU hil h0 (by rw[e1];decide),e1];exact zEe @jI.eq_1
  ·refine⟨k+1,⟨by omega,fun j hj=>?_⟩,by omega,?_⟩
   ·by_cases e:j=k
    ·subst e;exact hc
    ·exact hk2 j (by omega)
   exact zSm Yj
  ·have e:k=i:=by omega
   subst e;have e1:fU l k=3:=by unfold fU;rw[RI (by rw[pX hil hk2];simp),RJ];simp only[iD,SQ,RN];omega
   rw[nU hil h0 (by rw[e1];decide),e1];exact zEe @jI.eq_1
  ·have e:k=i:=by omega
   subst e;have e1:fU l k=0:=by unfold fU;rw[RI (by rw[pX hil hk2];simp),RI];simp only[iD,SQ,RN];omega
   refine⟨k+1,⟨by omega,by simp only[bB];rw[RJ h0];exact e1⟩,by omega,?_⟩;exact zFr [] Yj
 all_goals obtain rfl:i=l.length:=by omega
 ·unfold bS
  rw[RJ h0,RJ (by omega)];exact zEe @jI.eq_1
 ·have hl2:=hc
  refine W9 (ι:=Nat) (fun n=>n≤l.length) (fun n=>l.length-n) [0,56,57] (fun n=>[(8,I (cj l n).1),(9,I (cj l n).2),(58,I n)]) (fun n=>[]) 0 ?_ ?_ ?_
  ·omega
  ·simp only[go_sem];(refine zV [] rfl rfl rfl rfl ?_ ?_<;>simp(disch:=omega) only[go_sem,aa,Ss,cj]<;>(try rfl))
  intro n hn;obtain⟨b1,b2,b3⟩:=p7 n (oc h0 hn);have hb:(cj l n).1<l.length:=by omega
  have hlg:=h2 _ (aZ l _ hb);simp only[go_sem]
  (refine zW qw zn @bO (z3 ?_ ?_ ?_)<;>(try with_reducible intro(K:ASt→Prop) hK)<;>(repeat with_reducible intro hc))
  ·have hlg2:=h2 _ (aZ l _ hc)
   have:=Cn (aA (l.getD n default).log);have w1:=Bm _ (hw _ (aZ l _ hc));have hbb:(0:Int)≤((cj l n).1:Int):=by omega
   (repeat' first
|(with_reducible refine AR.f ?_)
|refine bH (by decide) ?_
|(with_reducible refine AWP.cond rfl ?_ ?_<;>intro hc<;>(try simp only[hcs,R1,Sa,Sb] at hc))
|((first|((first|(with_reducible first|refine zR ?_|refine zQ ?_|refine zD ?_|refine zE ?_|refine zG ?_));intro K hK)|((first|refine acallH_sc (ref_last_c _ hlg2) rfl rfl ?_ ?_ ?_|refine acallQ_sc (ref_last_c _ hlg2) rfl rfl ?_ ?_ ?_|refine acallH_sc (ref_last_c _ hlg) rfl rfl ?_ ?_ ?_|refine acallQ_sc (ref_last_c _ hlg) rfl rfl ?_ ?_ ?_|refine acallH_sc (ref_epoch_c _ w1) rfl rfl ?_ ?_ ?_|refine acallQ_sc (ref_epoch_c _ w1) rfl rfl ?_ ?_ ?_);iterate 2 (focus((try simp(disch:=omega) only[go_sem,aa,bO])<;>(try omega)<;>fail)))|((first|refine zX (ref_epoch_c _ w1) rfl ?_ ?_);(focus((try simp(disch:=omega) only[go_sem,aa,bO])<;>(try omega)<;>fail)))|((first|refine zX (ref_last_c _ hlg2) rfl ?_ ?_);(focus((try simp(disch:=omega) only[go_sem,aa,bO])<;>(try omega)<;>fail)))|((first|refine zX (ref_last_c _ hlg) rfl ?_ ?_);(focus((try simp(disch:=omega) only[go_sem,aa,bO])<;>(try omega)<;>fail)))|((first|(with_reducible refine aunder_i ?_ ?_<;>intro hg)|with_reducible intro hg)<;>(first|(exfalso;simp at hg;done)|(have hg':=hg;(try simp only[hcs,R1,Sa,Sb] at hg');(try simp only[hg])))))<;>(try simp(disch:=omega) only[go_sem,aa,bO])<;>(repeat' with_reducible refine Su ?_ ?_)<;>(try(with_reducible refine hK _ ?_;clear hK K)))
|omega)
   all_goals refine Zq (n+1) ?_
   all_goals(cases ha:lx (l.getD n default) (l.getD (cj l n).1 default))
   all_goals(have ha2:=ha;simp only[lx,SQ,RU,RN,U2,UU,RR] at ha2)
   all_goals first
    |(exfalso;omega)
    |(refine zV [] rfl rfl rfl rfl ?_ ?_<;>simp(disch:=omega) only[go_sem,aa,Ss,cj,mx,ha,RJ,RI]<;>(try rfl))
  ·have e:n=l.length:=by omega
   subst e;unfold bS;rw[RJ h0,RI (by omega),RJ (by omega)];exact zEe @jI.eq_1
  ·have e:n=l.length:=by omega
   subst e;unfold bS;rw[RJ h0,RI (by omega),RI (by omega)];exact zEe @jI.eq_1
open Go Go.Shelf
def yC:Go.Shelf.Ren:=⟨fun|171=>260|243=>271|246=>274|283=>275|284=>276|285=>277|286=>278|129=>280|317=>279|318=>281|319=>282|320=>283|337=>284|338=>285|n=>n,fun|3=>3|9=>9|2=>2|4=>4|171=>284|0=>0|53=>285|37=>239|5=>5|173=>288|212=>291|51=>267|20=>20|213=>292|46=>172|232=>295|233=>296|n=>n,fun|17=>3|18=>4|19=>5|n=>n⟩
theorem LI:Go.Proofs.LaysM.n171 prog yC:={
 mixed:=by kernel_rfl
 f129:=func280.trans (congrArg some (by kernel_rfl))
 f171:=func260.trans (congrArg some (by kernel_rfl))
 f243:=func271.trans (congrArg some (by kernel_rfl))
 f246:=func274.trans (congrArg some (by kernel_rfl))
 f283:=func275.trans (congrArg some (by kernel_rfl))
 f284:=func276.trans (congrArg some (by kernel_rfl))
 f285:=func277.trans (congrArg some (by kernel_rfl))
 f286:=func278.trans (congrArg some (by kernel_rfl))
 f317:=func279.trans (congrArg some (by kernel_rfl))
 f318:=func281.trans (congrArg some (by kernel_rfl))
 f319:=func282.trans (congrArg some (by kernel_rfl))
 f320:=func283.trans (congrArg some (by kernel_rfl))
 f337:=func284.trans (congrArg some (by kernel_rfl))
 f338:=func285.trans (congrArg some (by kernel_rfl))
 t0:=Tryz.underlying0
 a0:=Tryz.isAgg0
 z0:=Tryz.sizeOf0
 v0:=Tryz.zeroValue0
 t2:=Tryz.underlying2
 a2:=Tryz.isAgg2
 z2:=Tryz.sizeOf2
 v2:=Tryz.zeroValue2
 t3:=Tryz.underlying3
 a3:=Tryz.isAgg3
 z3:=Tryz.sizeOf3
 v3:=Tryz.zeroValue3
 t4:=Tryz.underlying4
 a4:=Tryz.isAgg4
 z4:=Tryz.sizeOf4
 v4:=Tryz.zeroValue4
 t5:=Tryz.underlying5
 a5:=Tryz.isAgg5
 z5:=Tryz.sizeOf5
 v5:=Tryz.zeroValue5
 t9:=Tryz.underlying9
 a9:=Tryz.isAgg9
 z9:=Tryz.sizeOf9
 v9:=Tryz.zeroValue9
 t20:=Tryz.underlying20
 a20:=Tryz.isAgg20
 z20:=Tryz.sizeOf20
 v20:=Tryz.zeroValue20
 t37:=Tryz.underlying239
 a37:=Tryz.isAgg239
 z37:=Tryz.sizeOf239
 v37:=Tryz.zeroValue239
 t46:=Tryz.underlying172
 a46:=Tryz.isAgg172
 z46:=Tryz.sizeOf172
 v46:=Tryz.zeroValue172
 t51:=Tryz.underlying267
 a51:=Tryz.isAgg267
 z51:=Tryz.sizeOf267
 v51:=Tryz.zeroValue267
 t53:=Tryz.underlying285
 a53:=Tryz.isAgg285
 z53:=Tryz.sizeOf285
 v53:=Tryz.zeroValue285
 t171:=Tryz.underlying284
 a171:=Tryz.isAgg284
 z171:=Tryz.sizeOf284
 v171:=Tryz.zeroValue284
 t173:=Tryz.underlying288
 a173:=Tryz.isAgg288
 z173:=Tryz.sizeOf288
 v173:=Tryz.zeroValue288
 t212:=Tryz.underlying291
 a212:=Tryz.isAgg291
 z212:=Tryz.sizeOf291
 v212:=Tryz.zeroValue291
 t213:=Tryz.underlying292
 a213:=Tryz.isAgg292
 z213:=Tryz.sizeOf292
 t232:=Tryz.underlying295
 a232:=Tryz.isAgg295
 z232:=Tryz.sizeOf295
 v232:=Tryz.zeroValue295
 t233:=Tryz.underlying296
 a233:=Tryz.isAgg296
 z233:=Tryz.sizeOf296
 v233:=Tryz.zeroValue296
 g17:=by kernel_rfl
 g18:=by kernel_rfl
 g19:=by kernel_rfl
 i0:=by kernel_rfl
 i2:=by kernel_rfl
 i3:=by kernel_rfl
 i4:=by kernel_rfl
 i5:=by kernel_rfl
 i9:=by kernel_rfl
 i20:=by kernel_rfl
 i37:=by kernel_rfl
 i46:=by kernel_rfl
 i51:=by kernel_rfl
 i53:=by kernel_rfl
 i171:=by kernel_rfl
 i173:=by kernel_rfl
 i212:=by kernel_rfl
 i232:=by kernel_rfl
 i233:=by kernel_rfl
 m17:=by kernel_rfl
 m18:=by kernel_rfl
 m19:=by kernel_rfl }
theorem PF{w:World}(ht:eY w){nm:String}{g:Nat}(hg:prog.globalNamed nm=some g)(hm:(g,Lib.pow10Tab.map fun z=>Value.int .u64 z)∈KP):Lib.TabIs prog w nm .u64 Lib.pow10Tab:=by obtain⟨ty,fz,h⟩:=ht _ hm;unfold Lib.TabIs World.var?;rw[hg,U6];simp only[h]
theorem DF(w:World)(k:Nat)(os:Array Obj):Below w.heap.size w (Sort.grow (w.drewN k) os):=
 ⟨rfl,rfl,rfl,by rw[Sort.size_grow];exact Vy _ _,fun i hi=>Sort.heap_grow_old _ _ hi⟩
theorem LA(n:Int)(h:okI n):ab prog [] 260 [I n] (ret (S (Lib.itoa n))):=
 mE ⟨_,func260,by kernel_rfl,by kernel_rfl⟩ rfl rfl fun w ht=>
  (Any.strconv_Itoa LI n h.1 h.2 w (PF ht (g:=3) (by kernel_rfl) (SF ..))).mono fun e w' hh=>by obtain⟨h1,k,os,h2⟩:=hh;subst h2;exact⟨h1,DF w k os⟩
def sw(z:Int):List UInt8×Int:=if bd z then(fu z,0) else([],3)
theorem A8{n:Int}(h:0≤n):Lib.itoa n=Lib.decDigits n.toNat:=by unfold Lib.itoa;rw[RI (by omega)]
theorem rZ{z:Int}(h:bd z):okI (epZ z)∧okI (coZ z)∧Lib.itoa (epZ z)=Lib.decDigits (z/2147483648).toNat∧Lib.itoa (coZ z)=Lib.decDigits (z%2147483648).toNat∧(Lib.decDigits (z/2147483648).toNat).length≤10∧(Lib.decDigits (z%2147483648).toNat).length≤10:=by
 have h':=h;unfold bd at h';have e1:epZ z=z/2147483648:=by unfold epZ;rw[RJ h]
 have e2:coZ z=z%2147483648:=by unfold coZ;rw[RJ h]
 rw[e1,e2];refine⟨⟨by omega,by omega⟩,⟨by omega,by omega⟩,A8 (by omega),A8 (by omega),pB _ 9 (by omega),pB _ 9 (by omega)⟩
theorem HH(z:Int):ab prog [] 236 [I z] (ret (.tup [S (sw z).1,I (sw z).2])):=by
 unfold sw
 by_cases h:bd z
 ·rw[RJ h]
  obtain⟨a,b,c,d,e,f⟩:=rZ h;have i1:=LA _ a;have i2:=LA _ b;rw[c] at i1;rw[d] at i2;refine zJ func236 ntmps236 results236 ?_;simp only[go_sem]
  (refine zW qw (zc (zgood_c z) (z4 (sL z) (EF z) i1 i2)) Yj (z2 ?_ ?_)<;>(repeat with_reducible intro hc))
  all_goals first|(exfalso;exact absurd h (by assumption))|skip
  all_goals exact zEe (zx @fu.eq_1 (zx @List.append_assoc.{0} (zx @List.cons_append.{0} @List.nil_append.{0})))
 ·rw[RI h]
  refine zJ func236 ntmps236 results236 ?_;simp only[go_sem]
  (refine zW qw (z1 (zgood_c z)) Yj (z2 ?_ ?_)<;>(try with_reducible intro(K:ASt→Prop) hK)<;>(repeat with_reducible intro hc))
  all_goals first|(exfalso;exact absurd (by assumption) h)|skip
  all_goals exact zEe Yj
theorem B0(n:Nat):iA n=Lib.decDigits n:=by
 induction n using Nat.strongRecOn with
 | _ n ih=>
   by_cases h:n<10
   ·rw[jU h,gQ h];unfold dig;rw[Ts h]
   ·rw[nJ h,nz h,ih (n/10) (by omega)];rfl
theorem zU(z:Int)(hz:okI z):ab prog [] 214 [I z] (ret (.tup [S (sw z).1,I (sw z).2])):=by
 unfold sw
 by_cases h:bd z
 ·rw[RJ h]
  obtain⟨_,_,_,_,e,f⟩:=rZ h;have h':=h;unfold bd at h';have i1:=kC (z/2147483648).toNat (by omega);have i2:=kC (z%2147483648).toNat (by omega);rw[B0,show(((z/2147483648).toNat:Nat):Int)=z/2147483648 by omega] at i1;rw[B0,show(((z%2147483648).toNat:Nat):Int)=z%2147483648 by omega] at i2;have t1:z.tdiv 2147483648=z/2147483648:=Up (by omega);have t2:z.tmod 2147483648=z%2147483648:=U3 (by omega);refine zJ func214 ntmps214 results214 ?_;simp only[go_sem]
  (refine zW qw (z3 (ref_zgood_c z hz) i1 i2) (zx @t1 @t2) (z2 ?_ ?_)<;>(repeat with_reducible intro hc))
  all_goals first|(exfalso;exact absurd h (by assumption))|skip
  all_goals exact zEe (zx @fu.eq_1 (zx @List.append_assoc.{0} (zx @List.cons_append.{0} @List.nil_append.{0})))
 ·rw[RI h]
  refine zJ func214 ntmps214 results214 ?_;simp only[go_sem]
  (refine zW qw (z1 (ref_zgood_c z hz)) Yj (z2 ?_ ?_)<;>(try with_reducible intro(K:ASt→Prop) hK)<;>(repeat with_reducible intro hc))
  all_goals first|(exfalso;exact absurd (by assumption) h)|skip
  all_goals exact zEe Yj
def QX(s:XV):Prop:=s.disk.files.length*48≤140737488351232∧s.peer.log.length*72≤140737488351232∧s.tree.wf∧s.watches.length*32≤140737488351232
theorem C1(a b:X3)(h1:a.log.length*72≤140737488351232)(h2:b.log.length*72≤140737488351232):ab prog [] 61 [a.av,b.av] (ret (B (decide (a=b)))):=by
 have hs:=wY a.log b.log h1 h2;refine zJ func61 ntmps61 results61 ?_;simp only[go_sem]
 (refine zW qw (z1 hs) Yj (z2 ?_ ?_)<;>(repeat with_reducible intro hc))
 all_goals(refine zE2 @X3.ext_iff ?_;(try simp(disch:=omega) only[go_sem,aa,X3.ext_iff,I,B,S,zj]))
 all_goals(try simp_all)
theorem pI(a:XV)(h:QX a):ab prog [] 21 [a.av,a.av] (ret (B true)):=by
 have hd:=(Ag a.disk a.disk h.1 h.1).re (congrArg B (decide_eq_true rfl));have hp:=(C1 a.peer a.peer h.2.1 h.2.1).re (congrArg B (decide_eq_true rfl));have ht:=(Dk a.tree a.tree h.2.2.1 h.2.2.1).re (congrArg B (decide_eq_true rfl));have hw:=(tV a.watches a.watches h.2.2.2 h.2.2.2).re (congrArg B (decide_eq_true rfl));refine zJ func21 ntmps21 results21 ?_;simp only[go_sem];refine zW qw (z4 hd hp ht hw) Yj (z1 ?_)
 all_goals exact zEe Yj
theorem y8:QX default:=⟨by decide,by decide,⟨by unfold okI;decide,⟨by decide,fun _ h=>by cases h⟩,by decide,fun _ h=>by cases h⟩,by decide⟩
end Go.Proofs.YtjcooccnfkfjhaaGreatDoor
