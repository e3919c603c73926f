/- What the law leans on. No condition. -/
import Derived.Test.YtjcooccnfkfjhaaGreatDoorRunK5
namespace Go.Proofs.YtjcooccnfkfjhaaGreatDoor
set_option maxHeartbeats 8000000
set_option linter.unusedVariables false
set_option linter.unusedSimpArgs false
open Go Go.RowKit
set_option maxRecDepth 100000
theorem B6(t:XI)(z:Int)(r:XK)(ht:okT t)(hr:r.wf)(hp:r.path.length≤1048576)(hz:okI z)(hq:gk t z r)(o:r.op=3):ab Tryz.prog [] 102 [t.av,I z,r.av] (ret (.tup [(bA t z r).1.av,I (bA t z r).2])):=by
 have hgc:=(cy t ht.1 ht.2).re (congrArg B hq.1);have hzc:=(ref_zgood_c z hz).re (congrArg B (decide_eq_true hq.2.1));obtain⟨hs1,hs2⟩:=hq.2.2;have hri:=aF hq.1;have hrs:=fV hq.1;obtain⟨sl1,sl2⟩:=sb r.path;have hcv:=(Ee ht.1 (splitP r.path).1.1).2.2.2.2.2.2.1;have hsr:=EZ (splitP r.path).1.2 (aw t (splitP r.path).1.1).1.stat.cversion;have hx:=JO (t:=t) (z:=z) (r:=r) o;have hcc:=tV t r;have m0:Int.tmod 0 2=0:=by decide
 have m1:Int.tmod 1 2=1:=by decide
 have m2:Int.tmod 2 2=0:=by decide
 have m3:Int.tmod 3 2=1:=by decide
 have b1:bits .and .i64 0 2=0:=by decide +kernel
 have b2:bits .and .i64 1 2=0:=by decide +kernel
 have b3:bits .and .i64 2 2=2:=by decide +kernel
 have b4:bits .and .i64 3 2=2:=by decide +kernel
 have b5:bits .and .i64 0 1=0:=by decide +kernel
 have b6:bits .and .i64 1 1=1:=by decide +kernel
 have b7:bits .and .i64 2 1=0:=by decide +kernel
 have b8:bits .and .i64 3 1=1:=by decide +kernel
 rcases hcc with⟨h,e⟩|⟨h,h2,e⟩|⟨h,h2,h3,e⟩|⟨h,h2,h3,e⟩|⟨h,h2,h3,h4,e⟩|⟨h,h2,h3,h4,h5,e⟩|⟨h,h2,h3,h4,h5,h6,e⟩|⟨h,h2,h3,h4,h5,h6,e⟩
 ·skip
  rw[bG hq hx (by omega),e];refine zJ Tryz.func102 Tryz.ntmps102 Tryz.results102 ?_;simp only[go_sem]
  (refine zW qw (z3 yE hgc hzc) @o (z1 ?_)<;>(repeat with_reducible intro hc))
  all_goals first|(exfalso;omega)|(exact zEf dfl;done)
 ·skip
  rw[bG hq hx (by omega),e];have hsp:=bC r.path hp;refine zJ Tryz.func102 Tryz.ntmps102 Tryz.results102 ?_;simp only[go_sem]
  (refine zW qw (z4 yE hgc hzc hsp) @o (z1 ?_)<;>(repeat with_reducible intro hc))
  all_goals first|(exfalso;omega)|(exact zEf dfl;done)
 ·skip
  rw[bG hq hx (by omega),e];have hsp:=bC r.path hp;rw[h2] at hsp;have hop:=(isOpen_c t r.session ht.1.2.2.1).re (congrArg B (RM h3));refine zJ Tryz.func102 Tryz.ntmps102 Tryz.results102 ?_;simp only[go_sem]
  (refine zW qw (zc yE (z4 hgc hzc hsp hop)) @o (z1 ?_)<;>(repeat with_reducible intro hc))
  all_goals first|(exfalso;omega)|(exact zEf dfl;done)
 ·rw[e] at hx
  have hsp:=bC r.path hp;rw[h2] at hsp;have hop:=(isOpen_c t r.session ht.1.2.2.1).re (congrArg B (decide_eq_true h3));rcases h with h|h
  ·skip
   have hcp:kH t r=r.path:=by unfold kH;rw[Rw (by omega)]
   have hco:kM r=0:=by unfold kM;rw[Rw (by omega)]
   rw[hcp,hco] at hx;have hxw:=cW (z:=z) ht hr hp hz;rw[hx] at hxw;simp only at hxw;have ha:=dC t ⟨z,3,r.session,r.path,r.data,0,0⟩ ht.1 ht.2 hxw.1.1 hxw.2 hxw.1.2.2.2.2.1;rw[dO hq hx];generalize ah t ⟨z,3,r.session,r.path,r.data,0,0⟩=q at ha ⊢;obtain⟨a,es,e⟩:=q;simp only at ha ⊢;refine zJ Tryz.func102 Tryz.ntmps102 Tryz.results102 ?_;simp only[go_sem]
   (refine zW qw (zc yE (zc hgc (z4 hzc hsp hop ha))) (zx @o (zx @h (zx @m0 (zx @m1 (zx @m2 @m3))))) (z2 ?_ ?_)<;>(repeat with_reducible intro hc))
   all_goals first
    |(exfalso;omega)
    |(rw[Rx (by omega)];exact zEf (zx @I.eq_1 @S.eq_1);done)
    |(rw[Rw (by omega)];exact zEf dfl;done)
  ·skip
   have hcp:kH t r=r.path:=by unfold kH;rw[Rw (by omega)]
   have hco:kM r=r.session:=by unfold kM;rw[Rx (by omega)]
   rw[hcp,hco] at hx;have hxw:=cW (z:=z) ht hr hp hz;rw[hx] at hxw;simp only at hxw;have ha:=dC t ⟨z,3,r.session,r.path,r.data,0,r.session⟩ ht.1 ht.2 hxw.1.1 hxw.2 hxw.1.2.2.2.2.1;rw[dO hq hx];generalize ah t ⟨z,3,r.session,r.path,r.data,0,r.session⟩=q at ha ⊢;obtain⟨a,es,e⟩:=q;simp only at ha ⊢;refine zJ Tryz.func102 Tryz.ntmps102 Tryz.results102 ?_;simp only[go_sem]
   (refine zW qw (zc yE (zc hgc (z4 hzc hsp hop ha))) (zx @o (zx @h (zx @m0 (zx @m1 (zx @m2 @m3))))) (z2 ?_ ?_)<;>(repeat with_reducible intro hc))
   all_goals first
    |(exfalso;omega)
    |(rw[Rx (by omega)];exact zEf (zx @I.eq_1 @S.eq_1);done)
    |(rw[Rw (by omega)];exact zEf dfl;done)
 ·skip
  rw[bG hq hx (by omega),e];have hsp:=bC r.path hp;rw[h2] at hsp;have hop:=(isOpen_c t r.session ht.1.2.2.1).re (congrArg B (decide_eq_true h3));have hgn:=iq t (splitP r.path).1.1 ht.1.2.1.1 hri;generalize (aw t (splitP r.path).1.1).2=e1 at h4 hgn ⊢;rcases h with h|h
  all_goals
   refine zJ Tryz.func102 Tryz.ntmps102 Tryz.results102 ?_;simp only[go_sem]
   (repeat' first
|(with_reducible refine AR.f ?_)
|(with_reducible refine AWP.cond rfl ?_ ?_<;>intro hc<;>(try simp only[hcs,RN,RY,RZ] at hc))
|((first|((first|refine zP ((XE [0,1,2,4] (.fork 3 (XE [5,6,7] .done) 5 (XE [3,6,7] .done)))) ?_|(with_reducible first|refine zR ?_));intro K hK)|((first|refine zA hgc ?_ ?_ ?_ ?_ ?_|refine zA hzc ?_ ?_ ?_ ?_ ?_|refine zA hsp ?_ ?_ ?_ ?_ ?_|refine zA hop ?_ ?_ ?_ ?_ ?_|refine zA hgn ?_ ?_ ?_ ?_ ?_);(focus exact rfl);(focus exact rfl);iterate 2 (focus((try simp(disch:=omega) only[go_sem,aa,o,h,m0,m1,m2,m3])<;>(try omega)<;>fail)))|((first|refine zN hgn rfl ?_ ?_|refine zX hgc rfl ?_ ?_|refine zX hzc rfl ?_ ?_|refine zX hsp rfl ?_ ?_|refine zX hop rfl ?_ ?_|refine zX hgn rfl ?_ ?_|refine zY hgn ?_ ?_);(focus((try simp(disch:=omega) only[go_sem,aa,o,h,m0,m1,m2,m3])<;>(try omega)<;>fail))))<;>(try simp(disch:=omega) only[go_sem,aa,o,h,m0,m1,m2,m3])<;>(repeat' with_reducible refine Sg ?_ ?_)<;>(try(with_reducible refine hK _ ?_;clear hK K)))
|omega)
   all_goals first|(exfalso;omega)|(exact zEf dfl;done)
 ·skip
  rw[bG hq hx (by omega),e];have hsp:=bC r.path hp;rw[h2] at hsp;have hop:=(isOpen_c t r.session ht.1.2.2.1).re (congrArg B (decide_eq_true h3));have hgn:=iq t (splitP r.path).1.1 ht.1.2.1.1 hri;rw[h4] at hgn;have hse:=ls (splitP r.path).1.2 (aw t (splitP r.path).1.1).1.stat.cversion (by omega) hcv;generalize (dN (splitP r.path).1.2 (aw t (splitP r.path).1.1).1.stat.cversion).2=e1 at h5 hse ⊢;rcases h with h|h
  all_goals
   refine zJ Tryz.func102 Tryz.ntmps102 Tryz.results102 ?_;simp only[go_sem]
   (refine zW qw (zc yE (zc hgc (zc hzc (z4 hsp hop hgn hse)))) (zx @o (zx @h (zx @m0 (zx @m1 (zx @m2 @m3))))) (z1 ?_)<;>(repeat with_reducible intro hc))
   all_goals first|(exfalso;omega)|(exact zEf dfl;done)
 ·skip
  rw[bG hq hx (by omega),e];have hsp:=bC r.path hp;rw[h2] at hsp;have hop:=(isOpen_c t r.session ht.1.2.2.1).re (congrArg B (decide_eq_true h3));have hgn:=iq t (splitP r.path).1.1 ht.1.2.1.1 hri;rw[h4] at hgn;have hse:=ls (splitP r.path).1.2 (aw t (splitP r.path).1.1).1.stat.cversion (by omega) hcv;rw[h5] at hse;have hjo:=tA (splitP r.path).1.1 (dN (splitP r.path).1.2 (aw t (splitP r.path).1.1).1.stat.cversion).1 (by omega) (by unfold okS;omega);generalize (dg (splitP r.path).1.1 (dN (splitP r.path).1.2 (aw t (splitP r.path).1.1).1.stat.cversion).1).2=e1 at h6 hjo ⊢;rcases h with h|h
  all_goals
   refine zJ Tryz.func102 Tryz.ntmps102 Tryz.results102 ?_;simp only[go_sem]
   (refine zW qw (zc yE (zc hgc (zc hzc (zc hsp (z4 hop hgn hse hjo))))) (zx @o (zx @h (zx @m0 (zx @m1 (zx @m2 @m3))))) (z1 ?_)<;>(repeat with_reducible intro hc))
   all_goals first|(exfalso;omega)|(exact zEf dfl;done)
 ·rw[e] at hx
  have hsp:=bC r.path hp;rw[h2] at hsp;have hop:=(isOpen_c t r.session ht.1.2.2.1).re (congrArg B (decide_eq_true h3));have hgn:=iq t (splitP r.path).1.1 ht.1.2.1.1 hri;rw[h4] at hgn;have hse:=ls (splitP r.path).1.2 (aw t (splitP r.path).1.1).1.stat.cversion (by omega) hcv;rw[h5] at hse;have hjo:=tA (splitP r.path).1.1 (dN (splitP r.path).1.2 (aw t (splitP r.path).1.1).1.stat.cversion).1 (by omega) (by unfold okS;omega);rw[h6] at hjo;rcases h with h|h
  ·skip
   have hcp:kH t r=(dg (splitP r.path).1.1 (dN (splitP r.path).1.2 (aw t (splitP r.path).1.1).1.stat.cversion).1).1:=by unfold kH;rw[Rx (by omega)];rfl
   have hco:kM r=0:=by unfold kM;rw[Rw (by omega)]
   rw[hcp,hco] at hx;have hxw:=cW (z:=z) ht hr hp hz;rw[hx] at hxw;simp only at hxw;have ha:=dC t ⟨z,3,r.session,(dg (splitP r.path).1.1 (dN (splitP r.path).1.2 (aw t (splitP r.path).1.1).1.stat.cversion).1).1,r.data,0,0⟩ ht.1 ht.2 hxw.1.1 hxw.2 hxw.1.2.2.2.2.1;rw[dO hq hx];generalize ah t ⟨z,3,r.session,(dg (splitP r.path).1.1 (dN (splitP r.path).1.2 (aw t (splitP r.path).1.1).1.stat.cversion).1).1,r.data,0,0⟩=q at ha ⊢;obtain⟨a,es,e⟩:=q;simp only at ha ⊢;refine zJ Tryz.func102 Tryz.ntmps102 Tryz.results102 ?_;simp only[go_sem]
   (refine zW qw (zc yE (zc hgc (zc hzc (zc hsp (zc hop (z4 hgn hse hjo ha)))))) (zx @o (zx @h (zx @m0 (zx @m1 (zx @m2 @m3))))) (z2 ?_ ?_)<;>(repeat with_reducible intro hc))
   all_goals first
    |(exfalso;omega)
    |(rw[Rx (by omega)];exact zEf (zx @I.eq_1 @S.eq_1);done)
    |(rw[Rw (by omega)];exact zEf dfl;done)
  ·skip
   have hcp:kH t r=(dg (splitP r.path).1.1 (dN (splitP r.path).1.2 (aw t (splitP r.path).1.1).1.stat.cversion).1).1:=by unfold kH;rw[Rx (by omega)];rfl
   have hco:kM r=r.session:=by unfold kM;rw[Rx (by omega)]
   rw[hcp,hco] at hx;have hxw:=cW (z:=z) ht hr hp hz;rw[hx] at hxw;simp only at hxw;have ha:=dC t ⟨z,3,r.session,(dg (splitP r.path).1.1 (dN (splitP r.path).1.2 (aw t (splitP r.path).1.1).1.stat.cversion).1).1,r.data,0,r.session⟩ ht.1 ht.2 hxw.1.1 hxw.2 hxw.1.2.2.2.2.1;rw[dO hq hx];generalize ah t ⟨z,3,r.session,(dg (splitP r.path).1.1 (dN (splitP r.path).1.2 (aw t (splitP r.path).1.1).1.stat.cversion).1).1,r.data,0,r.session⟩=q at ha ⊢;obtain⟨a,es,e⟩:=q;simp only at ha ⊢;refine zJ Tryz.func102 Tryz.ntmps102 Tryz.results102 ?_;simp only[go_sem]
   (refine zW qw (zc yE (zc hgc (zc hzc (zc hsp (zc hop (z4 hgn hse hjo ha)))))) (zx @o (zx @h (zx @m0 (zx @m1 (zx @m2 @m3))))) (z2 ?_ ?_)<;>(repeat with_reducible intro hc))
   all_goals first
    |(exfalso;omega)
    |(rw[Rx (by omega)];exact zEf (zx @I.eq_1 @S.eq_1);done)
    |(rw[Rw (by omega)];exact zEf dfl;done)
theorem Ou(t:XI)(z:Int)(r:XK)(ht:okT t)(hr:r.wf)(hp:r.path.length≤1048576)(hz:okI z):ab Tryz.prog [] 105 [t.av,I z,r.av] (ret (.tup [(bA t z r).1.av,I (bA t z r).2])):=by
 by_cases hq:gk t z r
 case neg=>exact NU t z r ht hr hp hz hq
 rcases(by omega:r.op=3∨r.op=4∨r.op=5∨r.op=1∨r.op=2∨¬ (1≤r.op∧r.op≤5)) with o|o|o|o
 ·exact MD t z r ht hr hp hz hq o
 ·exact Ms t z r ht hr hp hz hq o
 ·exact Nw t z r ht hr hp hz hq o
 ·exact MT t z r ht hr hp hz hq o
theorem Cv(t:XI)(z:Int)(r:XK)(ht:okT t)(hr:r.wf)(hp:r.path.length≤1048576)(hz:okI z):ab Tryz.prog [] 102 [t.av,I z,r.av] (ret (.tup [(bA t z r).1.av,I (bA t z r).2])):=by
 by_cases hq:gk t z r
 case neg=>exact BK t z r ht hr hp hz hq
 rcases(by omega:r.op=3∨r.op=4∨r.op=5∨r.op=1∨r.op=2∨¬ (1≤r.op∧r.op≤5)) with o|o|o|o
 ·exact B6 t z r ht hr hp hz hq o
 ·exact Aw t z r ht hr hp hz hq o
 ·exact Bl t z r ht hr hp hz hq o
 ·exact Ak t z r ht hr hp hz hq o
theorem qWf0:Pls [XE [1] (.fork 0 (XE [2,3,4] .done) 2 (XE [0,3,4] .done))]:=pls _
attribute [go_sem] Tryz.ntmps240 Tryz.results240
theorem C1{α:Type}(l:List α)(i:Nat)(d:α)(h:i<l.length):l.take (i+1)=l.take i++[l.getD i d]:=by rw[UK,Rv h];simp[Ru,h]
def oC(e:XL)(w:AWatch):Bool:=if w.path=e.path then(if w.kind=2 then(decide (e.kind=4)||decide (e.kind=2)) else(decide (e.kind=1)||decide (e.kind=2)||decide (e.kind=3))) else false
def keptW(e:XL)(l:List AWatch):List AWatch:=l.filter fun w=>!oC e w
def fH(e:XL)(l:List AWatch):List XJ:=(l.filter (oC e)).map fun w=>⟨w.session,e⟩
def mj(p:List XJ×List AWatch)(e:XL):List XJ×List AWatch:=(p.1++fH e p.2,keptW e p.2)
def cC(l:List AWatch)(es:List XL):List XJ×List AWatch:=es.foldl mj ([],l)
theorem xz(l:List AWatch)(es:List XL)(k:Nat)(h:k<es.length):cC l (es.take (k+1))=mj (cC l (es.take k)) (es.getD k default):=by have:es.take (k+1)=es.take k++[es.getD k default]:=aN es k h;unfold cC;rw[this,Tm];rfl
theorem qB(e:XL)(l:List AWatch)(k:Nat)(h:k<l.length):keptW e (l.take (k+1))=if oC e (l.getD k default)=true then keptW e (l.take k) else keptW e (l.take k)++[l.getD k default]:=by
 have:l.take (k+1)=l.take k++[l.getD k default]:=aN l k h;unfold keptW;rw[this,Sn];generalize l.getD k default=x
 split<;>rename_i hh<;>simp[hh]
theorem qr(e:XL)(l:List AWatch)(k:Nat)(h:k<l.length):fH e (l.take (k+1))=if oC e (l.getD k default)=true then fH e (l.take k)++[⟨(l.getD k default).session,e⟩] else fH e (l.take k):=by
 have:l.take (k+1)=l.take k++[l.getD k default]:=aN l k h;unfold fH;rw[this,Sn];generalize l.getD k default=x
 split<;>rename_i hh<;>simp[hh]
theorem rl(e:XL)(l:List AWatch):(fH e l).length+(keptW e l).length=l.length:=by
 induction l with
 |nil=>rfl
 | cons x l ih=>
   unfold fH keptW at *
   cases hx:oC e x<;>simp[hx] at *<;>omega
theorem jp(l:List AWatch):∀(es:List XL),(cC l es).1.length+(cC l es).2.length=l.length:=by
 have key:∀(es:List XL) (p:List XJ×List AWatch),(es.foldl mj p).1.length+(es.foldl mj p).2.length=p.1.length+p.2.length:=by
  intro es
  induction es with
  |nil=>intro p;rfl
  | cons e es ih=>
    intro p
    have:=rl e p.2;rw[Uh,ih];unfold mj;simp only[Ry];omega
 intro es;have:=key es ([],l);simpa[cC] using this
theorem nD(w:AWatch)(e:XL):ab Tryz.prog [] 241 [w.av,e.av] (ret (B (oC e w))):=by
 unfold oC;refine zJ Tryz.func241 Tryz.ntmps241 Tryz.results241 ?_;simp only[go_sem]
 (refine zW qw zn X5 (z3 ?_ ?_ ?_)<;>(repeat with_reducible intro hc))
 all_goals first
  |(rw[Rw hc];exact zEf trivial;done)
  |(rw[Rx (by assumption),Rx (by assumption)];exact zEf trivial;done)
  |(rw[Rx (by assumption),Rw (by assumption)];exact zEf trivial;done)
theorem yI(l:List AWatch)(h:l.length*32≤140737488351232):ab Tryz.prog [] 238 [.d (.sl 3 (l.map AWatch.row))] (own 3 (l.map AWatch.row)):=by
 refine zJ Tryz.func238 Tryz.ntmps238 Tryz.results238 ?_;simp only[go_sem]
 (repeat' first
|(with_reducible refine AR.f ?_)
|refine bI (by decide) ?_
|(with_reducible refine AWP.cond rfl ?_ ?_<;>intro hc<;>(try simp only[hcs,RN,RY,RZ] at hc))
|((first|((first|(with_reducible first|refine zR ?_));intro K hK)|((first|(with_reducible refine aunder_i ?_ ?_<;>intro hg)|with_reducible intro hg)<;>(first|(exfalso;simp at hg;done)|(have hg':=hg;(try simp only[hcs,RN,RY,RZ] at hg');(try simp only[hg])))))<;>(try simp(disch:=omega) only[go_sem,aa])<;>(repeat' with_reducible refine Sg ?_ ?_)<;>(try(with_reducible refine hK _ ?_;clear hK K)))
|omega)
 ·have e:l.length=0:=by
   rcases Tp l.length with h0|h0
   ·exact h0
   ·rw[hg h0] at hc;simp at hc
  rw[gQ e]
  (refine mE (by first|exact .inl rfl|exact .inr rfl) rfl ?_ ?_<;>simp(disch:=omega) only[go_sem,aa])
 ·(refine mU 1 (by first|exact .inl rfl|exact .inr rfl) rfl ?_ rfl rfl ?_<;>(try simp(disch:=omega) only[go_sem,aa,RC]))
theorem xw(e:XL)(l:List AWatch)(i:Nat)(h:∀ j,j<i→oC e (l.getD j default)=false)(hi:i≤l.length):keptW e (l.take i)=l.take i∧fH e (l.take i)=[]:=by
 have hf:∀ x,x∈l.take i→oC e x=false:=fun x hx=>by
  obtain⟨j,hj,rfl⟩:=Ta hx;rw[RH] at hj
  have:=h j (by omega);rw[Ru,Rv (by omega)] at this;rw[UN];exact this
 constructor
 ·unfold keptW;exact SI.2 fun x hx=>by rw[hf x hx];rfl
 ·unfold fH;rw[Tu.2 fun x hx=>by rw[hf x hx];decide];rfl
theorem MH(l:List AWatch)(h:l.length*32≤140737488351232):ab Tryz.prog [] 242 [.d (.sl 3 (l.map AWatch.row))] (ret (.d (.sl 3 (l.map AWatch.row)))):=by
 have t2:List.take l.length (l.map AWatch.row)=l.map AWatch.row:=Rz (by simp);rcases Tp l.length with h0|h0
 ·rw[gQ h0]
  refine zJ Tryz.func242 Tryz.ntmps242 Tryz.results242 ?_;simp only[go_sem]
  (refine zW qw zn X5 (z1 ?_)<;>(repeat with_reducible intro hc))
  all_goals exact zEe X5
 have e0:¬ ((l.length:Nat):Int)=0:=by omega
 refine zJ Tryz.func242 Tryz.ntmps242 Tryz.results242 ?_;simp only[go_sem]
 (refine zW qw zn (zx @t2 (zx @R3 @e0)) (z1 ?_)<;>(repeat with_reducible intro hc))
 all_goals exact zEe (zx @t2 (zx @R3 @e0))
theorem PF(l:List AWatch)(es:List XL)(h:l.length*32≤140737488351232)(he:es.length*24≤140737488351232):ab Tryz.prog [] 185 [.d (.sl 3 (l.map AWatch.row)),.d (.sl 2 (es.map XL.row))]
  (ret (.tup [.d (.sl 3 ((cC l es).1.map XJ.row)),.d (.sl 3 ((cC l es).2.map AWatch.row))])):=by
 refine zJ Tryz.func185 Tryz.ntmps185 Tryz.results185 ?_;simp only[go_sem]
 (refine zW qw (z1 (yI l h)) X5 (z1 ?_)<;>(repeat with_reducible intro hc))
 refine WR (W8 1 0 3 rfl rfl) ?_;simp only[go_sem];refine WQ (ι:=Nat) (fun k=>k≤es.length) (fun k=>es.length-k) [12,13] (fun k=>[(6,.osl 0 3 0 (cC l (es.take k)).2.length),(7,.ptr 1 0),(14,I k)]) (fun k=>[.rows 3 ((cC l (es.take k)).2.map AWatch.row),.cells [.osl 2 3 0 (cC l (es.take k)).1.length],.rows 3 ((cC l (es.take k)).1.map XJ.row)]) 0 ?_ ?_ ?_
 ·omega
 ·simp only[go_sem];exact zSm (zx @cC.eq_1 @List.foldl_nil.{0,0})
 intro k hk;simp only[go_sem]
 by_cases hk2:k<es.length
 case neg=>
  have hke:k=es.length:=by omega
  subst hke;rw[RU];generalize hpe:cC l es=p;obtain⟨ns,ws⟩:=p;have t1:List.take ns.length (ns.map XJ.row)=ns.map XJ.row:=Rz (by simp);have t2:List.take ws.length (ws.map AWatch.row)=ws.map AWatch.row:=Rz (by simp);have hcl:=MH ws (by have:=jp l es;rw[hpe] at this;simp only at this;omega)
  (refine zW qw (z2 qWf0 hcl) (zx @t1 @t2) (z2 ?_ ?_)<;>(repeat with_reducible intro hc))
  all_goals exact zEe (zx @t1 @t2)
 have hs:=xz l es k hk2;have hl:=jp l (es.take k);generalize cC l (es.take k)=p at hs hl ⊢;obtain⟨ns,ws⟩:=p;simp only at hl ⊢
 (repeat' first
|(with_reducible refine AR.f ?_)
|(with_reducible refine AWP.cond rfl ?_ ?_<;>intro hc<;>(try simp only[hcs,RN,RY,RZ] at hc))
|(refine bL fun Kk hKk=>(cm df Tryz.func239 rfl (by kernel_rfl) (by simp[Tryz.ntmps239]) ?_);simp only[Tryz.ntmps239,Tryz.results239,Sx,gC,R1,RD,Nat.reduceAdd,Ry,RQ,go_sem])
|(refine bL fun Kk hKk=>(cm df Tryz.func262 rfl (by kernel_rfl) (by simp[Tryz.ntmps262]) ?_);simp only[Tryz.ntmps262,Tryz.results262,Sx,gC,R1,RD,Nat.reduceAdd,Ry,RQ,go_sem])
|((first|((first|(with_reducible first|refine zR ?_));intro K hK)|(refine aend_in (v:=?_) hKk (by first|exact .inl rfl|exact .inr rfl) ?_ ?_ ?_;rotate_left;(focus((try simp(disch:=omega) only[go_sem,aa])<;>(try omega)<;>fail));(focus((try simp(disch:=omega) only[go_sem,aa])<;>(first|done|exact rfl)));clear hKk Kk))<;>(try simp(disch:=omega) only[go_sem,aa])<;>(repeat' with_reducible refine Sg ?_ ?_)<;>(try(with_reducible refine hK _ ?_;clear hK K)))
|omega)
 generalize es.getD k default=e at hs ⊢;refine WQ (ι:=Nat) (fun i=>i≤ws.length∧∀ j,j<i→oC e (ws.getD j default)=false) (fun i=>ws.length-i) [0,1,7] (fun i=>[(8,I i)]) (fun i=>[.rows 3 (ws.map AWatch.row),.cells [.osl 2 3 0 ns.length],.rows 3 (ns.map XJ.row),.cells [I e.kind,S e.path]]) 0 ?_ ?_ ?_
 ·exact⟨by omega,fun j hj=>by omega⟩
 ·simp only[go_sem];exact zSm X5
 intro i ⟨hi,hi2⟩;simp only[go_sem]
 by_cases hi3:i<ws.length
 case neg=>
  have hie:i=ws.length:=by omega
  subst hie;obtain⟨q1,q2⟩:=xw e ws ws.length hi2 (RE _);rw[RU] at q1 q2
  (repeat' first
|(with_reducible refine AR.f ?_)
|(with_reducible refine AWP.cond rfl ?_ ?_<;>intro hc<;>(try simp only[hcs,RN,RY,RZ] at hc))
|(refine bL fun Kk hKk=>(cm df Tryz.func240 rfl (by kernel_rfl) (by simp[Tryz.ntmps240]) ?_);simp only[Tryz.ntmps240,Tryz.results240,Sx,gC,R1,RD,Nat.reduceAdd,Ry,RQ,go_sem])
|((first|((first|(with_reducible first|refine zR ?_));intro K hK)|(refine aend_in (v:=?_) hKk (by first|exact .inl rfl|exact .inr rfl) ?_ ?_ ?_;rotate_left;(focus((try simp(disch:=omega) only[go_sem,aa])<;>(try omega)<;>fail));(focus((try simp(disch:=omega) only[go_sem,aa])<;>(first|done|exact rfl)));clear hKk Kk))<;>(try simp(disch:=omega) only[go_sem,aa])<;>(repeat' with_reducible refine Sg ?_ ?_)<;>(try(with_reducible refine hK _ ?_;clear hK K)))
|omega)
  refine⟨k+1,by omega,by omega,?_⟩;rw[hs];simp only[mj,q1,q2,R5];exact zFr [0,1,2] X5
 have hrw:∀ z,List.getD (List.map AWatch.row ws) i z=(ws.getD i default).row:=fun z=>AWatch.rgetD ws i z hi3
 by_cases hh:oC e (ws.getD i default)=true
 case neg=>
  have ht:=(nD (ws.getD i default) e).re (congrArg B (Te hh))
  (refine zW qw (z2 (ic Tryz.func240) ht) (zx @hrw @AWatch.row.eq_1) (z1 ?_)<;>(repeat with_reducible intro hc))
  refine⟨i+1,⟨by omega,fun j hj=>?_⟩,by omega,?_⟩
  ·by_cases ej:j=i
   ·subst ej;exact Te hh
   ·exact hi2 j (by omega)
  exact zFr [0,1,2,3] X5
 have ht:=(nD (ws.getD i default) e).re (congrArg B hh);obtain⟨q1,q2⟩:=xw e ws i hi2 hi;have hk0:keptW e (ws.take (i+1))=ws.take i:=by rw[qB e ws i hi3,Rx hh,q1]
 have ht0:fH e (ws.take (i+1))=[⟨(ws.getD i default).session,e⟩]:=by rw[qr e ws i hi3,Rx hh,q2];rfl
 have hmin:(ws.take i).length=i:=by rw[RH];omega
 (repeat' first
|(with_reducible refine AR.f ?_)
|(with_reducible refine AWP.cond rfl ?_ ?_<;>intro hc<;>(try simp only[hcs,RN,RY,RZ] at hc))
|(refine bL fun Kk hKk=>(cm df Tryz.func240 rfl (by kernel_rfl) (by simp[Tryz.ntmps240]) ?_);simp only[Tryz.ntmps240,Tryz.results240,Sx,gC,R1,RD,Nat.reduceAdd,Ry,RQ,go_sem])
|((first|((first|(with_reducible first|refine zR ?_));intro K hK)|((first|refine zA ht ?_ ?_ ?_ ?_ ?_);(focus exact rfl);(focus exact rfl);iterate 2 (focus((try simp(disch:=omega) only[go_sem,aa,hrw,AWatch.row])<;>(try omega)<;>fail)))|((first|refine zX ht rfl ?_ ?_);(focus((try simp(disch:=omega) only[go_sem,aa,hrw,AWatch.row])<;>(try omega)<;>fail)))|(refine aend_in (v:=?_) hKk (by first|exact .inl rfl|exact .inr rfl) ?_ ?_ ?_;rotate_left;(focus((try simp(disch:=omega) only[go_sem,aa,hrw,AWatch.row])<;>(try omega)<;>fail));(focus((try simp(disch:=omega) only[go_sem,aa,hrw,AWatch.row])<;>(first|done|exact rfl)));clear hKk Kk))<;>(try simp(disch:=omega) only[go_sem,aa,hrw,AWatch.row])<;>(repeat' with_reducible refine Sg ?_ ?_)<;>(try(with_reducible refine hK _ ?_;clear hK K)))
|omega)
 refine WQ (ι:=Nat×List AWatch) (fun v=>i<v.1∧v.1≤ws.length∧v.2.length=ws.length∧v.2.take (keptW e (ws.take v.1)).length=keptW e (ws.take v.1)∧v.2.drop v.1=ws.drop v.1∧(keptW e (ws.take v.1)).length<v.1) (fun v=>ws.length-v.1) [0,1] (fun v=>[(5,I (keptW e (ws.take v.1)).length),(6,I v.1)]) (fun v=>[.rows 3 (v.2.map AWatch.row),.cells [.osl 4 3 0 (ns++fH e (ws.take v.1)).length],.dead,.cells [I e.kind,S e.path],.rows 3 ((ns++fH e (ws.take v.1)).map XJ.row)]) (i+1,ws) ?_ ?_ ?_
 ·simp only[hk0,hmin]
  exact⟨by omega,by omega,X5,X5,X5,by omega⟩
 ·simp only[go_sem,hk0,ht0,hmin];exact zFr [0,1,2,3,6] (zx @XJ.row.eq_1 (zx @List.map_append.{0,0} (zx @List.map_cons.{0,0} @List.map_nil.{0,0})))
 intro⟨j,R⟩ ⟨j1,j2,r1,r2,r3,r4⟩;simp only at j1 j2 r1 r2 r3 r4;simp only[go_sem]
 by_cases hj3:j<ws.length
 ·have hRj:∀ z,List.getD (List.map AWatch.row R) j z=(ws.getD j default).row:=fun z=>by
   rw[AWatch.rgetD R j z (by omega)]
   have:(R.drop j).getD 0 default=(ws.drop j).getD 0 default:=by rw[r3]
   rw[Ru,Ru,Sz,Sz,SV] at this;rw[Ru,Ru,this]
  have hks:=qB e ws j hj3;have hts:=qr e ws j hj3;have hkl:=rl e (ws.take j);have htn:List.take (ns.length+(fH e (ws.take j)).length) (List.map XJ.row (ns++fH e (ws.take j)))=List.map XJ.row (ns++fH e (ws.take j)):=Rz (by simp);rw[RH] at hkl
  by_cases hh2:oC e (ws.getD j default)=true
  ·have ht2:=(nD (ws.getD j default) e).re (congrArg B hh2)
   rw[Rx hh2] at hks hts
   (refine zW qw (z2 (ic Tryz.func240) ht2) (zx @hRj (zx @AWatch.row.eq_1 (zx @r1 @htn))) (z1 ?_)<;>(repeat with_reducible intro hc))
   refine⟨(j+1,R),⟨by omega,by omega,r1,by simp only[hks];exact r2,?_,by simp only[hks];omega⟩,by simp only;omega,?_⟩
   ·simp only;rw[←Sv,←Sv,r3]
   simp only[hks,hts];exact zFr [0,1,2,3,8] (zx @XJ.row.eq_1 (zx @List.map_append.{0,0} (zx @List.map_cons.{0,0} (zx @List.map_nil.{0,0} (zx @List.append_assoc.{0} @SL)))))
  have ht2:=(nD (ws.getD j default) e).re (congrArg B (Te hh2));rw[Rw hh2] at hks hts;have hcl:(keptW e (ws.take j)).length<R.length:=by omega
  (refine zW qw (z2 (ic Tryz.func240) ht2) (zx @hRj (zx @AWatch.row.eq_1 @r1)) (z1 ?_)<;>(repeat with_reducible intro hc))
  refine⟨(j+1,R.set (keptW e (ws.take j)).length (ws.getD j default)),⟨by omega,by omega,by simp only[RQ];exact r1,?_,?_,by simp only[hks,Ry,Sj];omega⟩,by simp only;omega,?_⟩
  ·simp only[hks,Ry,Sj]
   rw[C1 _ _ default (by rw[RQ];exact hcl),List.take_set_of_le (RE _),r2];congr 1;rw[Ru,TG hcl];rfl
  ·simp only
   rw[List.drop_set_of_lt (by omega),←Sv,←Sv,r3]
  simp only[hks,hts];exact zFr [0,1,2,3,4] (zx @AWatch.row.eq_1 (zx @List.map_set.{0,0} @List.length_append.{0}))
 have hje:j=ws.length:=by omega
 subst hje;rw[RU] at r2 r4 ⊢
 (repeat' first
|(with_reducible refine AR.f ?_)
|(with_reducible refine AWP.cond rfl ?_ ?_<;>intro hc<;>(try simp only[hcs,RN,RY,RZ] at hc))
|(refine bL fun Kk hKk=>(cm df Tryz.func240 rfl (by kernel_rfl) (by simp[Tryz.ntmps240]) ?_);simp only[Tryz.ntmps240,Tryz.results240,Sx,gC,R1,RD,Nat.reduceAdd,Ry,RQ,go_sem])
|((first|((first|(with_reducible first|refine zR ?_));intro K hK)|(refine aend_in (v:=?_) hKk (by first|exact .inl rfl|exact .inr rfl) ?_ ?_ ?_;rotate_left;(focus((try simp(disch:=omega) only[go_sem,aa,r1,r4])<;>(try omega)<;>fail));(focus((try simp(disch:=omega) only[go_sem,aa,r1,r4])<;>(first|done|exact rfl)));clear hKk Kk))<;>(try simp(disch:=omega) only[go_sem,aa,r1,r4])<;>(repeat' with_reducible refine Sg ?_ ?_)<;>(try(with_reducible refine hK _ ?_;clear hK K)))
|omega)
 have htk:∀ X:List (List DV),List.take (keptW e ws).length (List.take (keptW e ws).length (List.map AWatch.row R)++X)=List.map AWatch.row (keptW e ws):=fun X=>by rw[Sa (by rw[RH,RC];omega),TF,Nat.min_self,←U0,r2]
 refine⟨k+1,by omega,by omega,ay.trans (ay.tail 0 (keptW e ws).length rfl) ?_⟩;rw[hs];simp only[mj,Sd];exact zFr [0,1,4] @htk
theorem Dg(l:List AWatch)(es:List XL)(h:l.length*32≤140737488351232)(he:es.length*24≤140737488351232):ab Tryz.prog [] 158 [.d (.sl 3 (l.map AWatch.row)),.d (.sl 2 (es.map XL.row))]
  (ret (.tup [.d (.sl 3 ((cC l es).1.map XJ.row)),.d (.sl 3 ((cC l es).2.map AWatch.row))])):=by
 refine zJ Tryz.func158 Tryz.ntmps158 Tryz.results158 ?_;simp only[go_sem]
 (refine zW qw zn X5 (z1 ?_)<;>(repeat with_reducible intro hc))
 refine WR (WT 6 3 rfl) ?_;simp only[go_sem];refine WQ (ι:=Nat) (fun k=>k≤es.length) (fun k=>es.length-k) [14,15] (fun k=>[(0,.d (.sl 3 ((cC l (es.take k)).2.map AWatch.row))),(6,.osl 0 3 0 (cC l (es.take k)).1.length),(16,I k)]) (fun k=>[.rows 3 ((cC l (es.take k)).1.map XJ.row)]) 0 ?_ ?_ ?_
 ·omega
 ·simp only[go_sem];exact zSm (zx @cC.eq_1 @List.foldl_nil.{0,0})
 intro k hk;simp only[go_sem]
 by_cases hk2:k<es.length
 case neg=>
  have hke:k=es.length:=by omega
  subst hke;rw[RU];generalize hpe:cC l es=p;obtain⟨ns,ws⟩:=p;have t1:List.take ns.length (ns.map XJ.row)=ns.map XJ.row:=Rz (by simp);have t2:List.take ws.length (ws.map AWatch.row)=ws.map AWatch.row:=Rz (by simp);have hwl:ws.length*32≤140737488351232:=by have:=jp l es;rw[hpe] at this;simp only at this;omega
  (refine zW qw zn (zx @t1 @t2) (z1 ?_)<;>(repeat with_reducible intro hc))
  all_goals exact zEe (zx @t1 @t2)
 have hs:=xz l es k hk2;have hl:=jp l (es.take k);generalize cC l (es.take k)=p at hs hl ⊢;obtain⟨ns,ws⟩:=p;simp only at hl ⊢
 (refine zW qw zn X5 (z1 ?_)<;>(repeat with_reducible intro hc))
 generalize es.getD k default=e at hs ⊢;refine WR (WT 9 3 rfl) ?_;simp only[go_sem];refine WQ (ι:=Nat) (fun j=>j≤ws.length) (fun j=>ws.length-j) [14,15,16,20,21] (fun j=>[(6,.osl 0 3 0 (ns++fH e (ws.take j)).length),(8,.ptr 1 0),(9,.osl 2 3 0 (keptW e (ws.take j)).length),(22,I j)]) (fun j=>[.rows 3 ((ns++fH e (ws.take j)).map XJ.row),.cells [I e.kind,S e.path],.rows 3 ((keptW e (ws.take j)).map AWatch.row)]) 0 ?_ ?_ ?_
 ·omega
 ·simp only[go_sem,fH,keptW,S4,SR,TP,R5];exact zSm X5
 intro j hj;simp only[go_sem]
 by_cases hj3:j<ws.length
 case neg=>
  have hje:j=ws.length:=by omega
  subst hje;rw[RU]
  (refine zW qw zn X5 (z1 ?_)<;>(repeat with_reducible intro hc))
  refine⟨k+1,by omega,by omega,ay.trans (Xf 0 2 (fun j hj=>by cases hj) rfl rfl (by simp)) ?_⟩;rw[hs];have t2:List.take (keptW e ws).length ((keptW e ws).map AWatch.row)=(keptW e ws).map AWatch.row:=Rz (by simp);simp only[mj];exact zFr [0] @t2
 have hRj:∀ z,List.getD (List.map AWatch.row ws) j z=(ws.getD j default).row:=fun z=>AWatch.rgetD ws j z hj3
 have hks:=qB e ws j hj3;have hts:=qr e ws j hj3;have hkl:=rl e (ws.take j);rw[RH] at hkl;have htn:List.take (ns.length+(fH e (ws.take j)).length) (List.map XJ.row (ns++fH e (ws.take j)))=List.map XJ.row (ns++fH e (ws.take j)):=Rz (by simp);have hkn:List.take (keptW e (ws.take j)).length (List.map AWatch.row (keptW e (ws.take j)))=List.map AWatch.row (keptW e (ws.take j)):=Rz (by simp);generalize hw:ws.getD j default=w at hRj hks hts
 (refine zW qw zn (zx @hRj (zx @AWatch.row.eq_1 (zx @htn @hkn))) (z2 ?_ ?_)<;>(repeat with_reducible intro hc))
 ·have hh:oC e w=true:=by
   unfold oC;rw[Rx hc.1]
   by_cases e2:w.kind=2
   ·rw[Rx e2];rcases hc.2 with h|h
    ·exact absurd e2 h.1
    ·simpa using h.2
   ·rw[Rw e2];rcases hc.2 with h|h
    ·have:=h.2;simp only[SC,RB];omega
    ·exact absurd h.1 e2
  rw[Rx hh] at hks hts;refine⟨j+1,by omega,by omega,?_⟩;rw[hks,hts];exact zFr [5,1,2] (zx @XJ.row.eq_1 (zx @List.map_append.{0,0} (zx @List.map_cons.{0,0} (zx @List.map_nil.{0,0} (zx @List.append_assoc.{0} @SL)))))
 ·have hh:¬ oC e w=true:=by
   unfold oC
   by_cases e1:w.path=e.path
   ·rw[Rx e1]
    have hc2:=hc.resolve_left (fun h=>h e1)
    by_cases e2:w.kind=2
    ·rw[Rx e2];have:=hc2.2;simp only[SC,RB];omega
    ·rw[Rw e2];have:=hc2.1;simp only[SC,RB];omega
   ·rw[Rw e1];decide
  rw[Rw hh] at hks hts;refine⟨j+1,by omega,by omega,?_⟩;rw[hks,hts];exact zFr [0,1,5] (zx @AWatch.row.eq_1 (zx @List.map_append.{0,0} (zx @List.map_cons.{0,0} (zx @List.map_nil.{0,0} @List.length_append.{0}))))
theorem yP(a b:List XJ)(h:a.length*32≤140737488351232)(h2:b.length*32≤140737488351232):ab Tryz.prog [] 47 [.d (.sl 3 (a.map XJ.row)),.d (.sl 3 (b.map XJ.row))] (ret (B (decide (a=b)))):=by
 refine zJ Tryz.func47 Tryz.ntmps47 Tryz.results47 ?_;simp only[go_sem]
 (refine zW qw zn X5 (z2 ?_ ?_)<;>(repeat with_reducible intro hc))
 ·(refine zE2 X5 ?_;(try simp(disch:=omega) only[go_sem,aa,I,B,S,zj]))
  symm;rw[RT];intro e;subst e;simp at hc
 have h3:=hc;refine WW (ι:=Nat) (fun k=>k≤a.length∧∀ j,j<k→a.getD j default=b.getD j default) (fun k=>a.length-k) [0,1,12] (fun k=>[(13,I k)]) 0 ?_ (by simp(disch:=omega) only[go_sem,aa,SH]) ?_
 ·exact⟨by omega,by omega⟩
 intro k ⟨hk,hk2⟩;simp only[go_sem]
 (refine zW qw zn @XJ.rgetD (z3 ?_ ?_ ?_)<;>(repeat with_reducible intro hc))
 ·(refine zE2 X5 ?_;(try simp(disch:=omega) only[go_sem,aa,I,B,S,zj]))
  symm;rw[RT];intro e;subst e;simp at hc
 ·refine⟨k+1,⟨by omega,fun j hj=>?_⟩,by omega,?_⟩
  ·by_cases e:j=k
   ·subst e;first|exact hc|exact(XJ.ext_iff _ _).2 hc|(rw[XJ.ext_iff,XL.ext_iff];simp_all)
   ·exact hk2 j (by omega)
  exact zSm X5
 ·(refine zE2 X5 ?_;(try simp(disch:=omega) only[go_sem,aa,I,B,S,zj]))
  symm;rw[RB]
  exact DP (by omega) fun j hj=>hk2 j (by omega)
theorem oV(k n:Nat):(byteAt k (n:Int)).toNat=n/256^k%256:=by
 unfold byteAt;rw[QQ];have e:((n:Int)/((256^k:Nat):Int)%256).toNat=n/256^k%256:=by rw[←V5,show(256:Int)=((256:Nat):Int) from rfl,←Int.natCast_emod,SW]
 rw[e,Uz,Nat.mod_mod]
theorem z8(n:Nat):∀ k,numN (beB k (n:Int))=n%256^k
 |0=>by rw[Vb,Nat.mod_one];rfl
 | k+1=>by
   rw[beB,rf,beB_len,z8 n k,oV,TR,Nat.mod_mul,Wb (256^k),TD]
theorem fZ{n k:Nat}(h:n<256^k):numN (beB k (n:Int))=n:=by rw[z8,Tg h]
theorem Lo{z:Int}(h0:0≤z)(h:z<9223372036854775808):kf (beB 8 z)=z:=by
 obtain⟨n,rfl⟩:=SP h0;obtain⟨k,hk⟩:=JU (beB 8 (n:Int));rw[fZ (by omega)] at hk
 have:=BM (beB 8 (n:Int));unfold okI at this;omega
theorem fU{t:ATxn}(h:aT t=0):(0≤t.zxid∧t.zxid<9223372036854775808)∧(1≤t.op∧t.op≤5)∧(1≤t.session∧t.session≤2147483647)∧(0≤t.version∧t.version≤2147483647)∧(0≤t.owner∧t.owner≤2147483647)∧t.path.length≤200∧t.data.length≤256:=by
 obtain⟨a,b⟩:=ga h;unfold aT at h;split at h
 ·cases h
 split at h
 ·cases h
 rename_i h1 h2;have h3:=(eF t).1 (by simpa using h2);have hz:=h3.1;unfold bd at hz;exact⟨by omega,by omega,h3.2.1,h3.2.2.1,h3.2.2.2,a,b⟩
theorem mid{A B C s:List UInt8}(h:s=A++(B++C)){n m:Nat}(hn:A.length=n)(hm:B.length=m):(s.drop n).take m=B:=by rw[h,Vu hn,Ui hm]
theorem at1{A C s:List UInt8}{x:UInt8}(h:s=A++(x::C)){n:Nat}(hn:A.length=n):s.getD n 0=x:=by rw[h,Ru,RG (by omega),hn,Tl];rfl
theorem Mq{z:Int}(h0:0≤z)(h:z<256):((byteAt 0 z).toNat:Int)=z:=by obtain⟨n,rfl⟩:=SP h0;rw[oV,Vb,Vq,Tg (by omega)]
theorem zf{z:Int}{k:Nat}(h0:0≤z)(h:z<((256^k:Nat):Int)):((numN (beB k z):Nat):Int)=z:=by obtain⟨n,rfl⟩:=SP h0;rw[fZ (by omega)]
theorem CG{t:ATxn}(h:aT t=0):(cE t).1=pO t:=by unfold cE;rw[Rx h]
theorem nF{t:ATxn}(h:aT t=0):(cE t).1.length=31+t.path.length+t.data.length:=by rw[CG h,pO,Ry,gO,beB_len];omega
theorem NP{t:ATxn}(h:aT t=0)(more:List UInt8):cb ((cE t).1++more)=(t,(((cE t).1.length:Nat):Int),0):=by
 obtain⟨⟨z0,z1⟩,⟨p0,p1⟩,⟨s0,s1⟩,⟨v0,v1⟩,⟨o0,o1⟩,lp,ld⟩:=fU h;rw[nF h,CG h];have hb:=fY t;have hh:=gO t
 -- the record's parts
 have e0:pO t++more=84::(beB 2 ((bF t).length:Int)++(bF t++(beB 4 (lY (dr t))++more))):=by unfold pO dr;simp only[Sd,Ss,Sp]
 have e1:pO t++more=dr t++(beB 4 (lY (dr t))++more):=by unfold pO;rw[Sd]
 generalize hs:pO t++more=s at e0 e1 ⊢;have hsl:s.length=31+t.path.length+t.data.length+more.length:=by rw[e1];simp only[Ry,hh,beB_len];omega
 have hN:sN s=(bF t).length:=by unfold sN;rw[mid (n:=1) (m:=2) (A:=[84]) (B:=beB 2 ((bF t).length:Int)) e0 rfl (beB_len _ _),fZ (by omega)]
 have h1:¬ dw s:=by
  unfold dw;rw[e0];rintro(h|h)
  ·rw[←e0] at h;omega
  ·exact h rfl
 have h2:¬ dU s:=by unfold dU;rw[hN];omega
 have hsum:=Pb (dr t);have h3:¬ gF s:=by unfold gF;rw[hN,mid (A:=dr t) (B:=beB 4 (lY (dr t))) (C:=more) e1 (by omega) (beB_len _ _),fZ (by omega),e1,Ui (by omega)];exact fun h=>h rfl
 have hB:sB s=bF t:=by unfold sB;rw[hN];exact mid (A:=[84]++beB 2 ((bF t).length:Int)) (C:=beB 4 (lY (dr t))++more) (by rw[e0];simp only[Sd,Ss,Sp]) (by rw[Ry,beB_len];rfl) rfl
 have hbt:dK (bF t)∧dZ (bF t)=t:=by
  have b1:bF t=b6 t++(byteAt 0 t.path.length::(t.path++(beB 2 t.data.length++t.data))):=by unfold bF b7;simp only[Sd,Ss,Sp]
  have b2:bF t=b7 t++(beB 2 t.data.length++t.data):=by unfold bF;simp only[Sd]
  have b3:bF t=beB 8 t.zxid++(byteAt 0 t.op::(beB 4 t.session++(beB 4 t.version++(beB 4 t.owner++(byteAt 0 t.path.length::(t.path++(beB 2 t.data.length++t.data))))))):=by unfold bF b7 b6 b5;simp only[Sd,Ss,Sp]
  have b4:bF t=(beB 8 t.zxid++[byteAt 0 t.op])++(beB 4 t.session++(beB 4 t.version++(beB 4 t.owner++(byteAt 0 t.path.length::(t.path++(beB 2 t.data.length++t.data)))))):=by rw[b3];simp only[Sd,Ss,Sp]
  have b5':bF t=b5 t++(beB 4 t.version++(beB 4 t.owner++(byteAt 0 t.path.length::(t.path++(beB 2 t.data.length++t.data))))):=by unfold bF b7 b6;simp only[Sd,Ss,Sp]
  have b6':bF t=(b5 t++beB 4 t.version)++(beB 4 t.owner++(byteAt 0 t.path.length::(t.path++(beB 2 t.data.length++t.data)))):=by rw[b5'];simp only[Sd]
  have b7':bF t=(b6 t++[byteAt 0 t.path.length])++(t.path++(beB 2 t.data.length++t.data)):=by rw[b1];simp only[Sd,Ss,Sp]
  have b8:bF t=(b7 t++beB 2 t.data.length)++t.data:=rfl;have hP:bP (bF t)=t.path.length:=by unfold bP;rw[at1 b1 (qU t),oV,Vb,Vq,Tg (by omega)]
  have hD:bD (bF t)=t.data.length:=by unfold bD;rw[hP,mid b2 (oA t) (beB_len _ _),fZ (by omega)]
  refine⟨by unfold dK;rw[hP,hD];omega,?_⟩;unfold dZ
  rw[hP,show(bF t).take 8=beB 8 t.zxid from by rw[b3,Ui (beB_len _ _)],Lo z0 z1,at1 b3 (beB_len _ _),Mq (by omega) (by omega),
   mid b4 (by rw[Ry,beB_len];rfl) (beB_len _ _),zf (by omega) (by omega),mid b5' (oD t) (beB_len _ _),zf v0 (by omega),
   mid b6' (by rw[Ry,oD,beB_len]) (beB_len _ _),zf o0 (by omega),mid b7' (by rw[Ry,qU];rfl) rfl,
   show(bF t).drop (24+t.path.length)=t.data from by rw[b8,Vu (by rw[Ry,oA,beB_len];omega)]]
 rw[va h1 h2 h3 (by rw[hB];exact hbt.1) (by rw[hB,hbt.2];exact h),hB,hbt.2,hN];congr 2;omega
theorem Ny{t:ATxn}(h:aT t=0){m:Nat}(hm:m<(cE t).1.length):(cb ((cE t).1.take m)).2.2≠0:=by
 intro hz;obtain⟨h1,h2,_⟩:=Bi hz;unfold dw at h1;unfold dU at h2;have hb:=fY t;rw[nF h] at hm;have hl:((cE t).1.take m).length=m:=by rw[RH,nF h];omega
 have hm3:3≤m:=by omega
 have hN:sN ((cE t).1.take m)=(bF t).length:=by
  unfold sN;rw[List.drop_take,TF,Sq (by omega),CG h];have e0:pO t=[84]++(beB 2 ((bF t).length:Int)++(bF t++beB 4 (lY (dr t)))):=by unfold pO dr;simp only[Sd]
  obtain⟨_,_,_,_,_,lp,ld⟩:=fU h;rw[mid (n:=1) (m:=2) e0 rfl (beB_len _ _),fZ (by omega)]
 rw[hN] at h2;omega
theorem eC(t:ATxn)(l:List ATxn):encs (t::l)=(cE t).1++encs l:=by unfold encs;simp
theorem AD(a b:List ATxn):encs (a++b)=encs a++encs b:=by unfold encs;simp
theorem EQ:(cb []).2.2≠0:=by decide
theorem DG{t:ATxn}{l:List ATxn}(h:logOk (t::l)):logOk l:=by
 refine⟨fun k hk=>?_,fun x hx=>h.2 x (R6 _ hx)⟩
 have:=h.1 (k+1) (by simpa using hk);simpa using this
theorem Cw{s:List UInt8}{f at_:Nat}{l:List ATxn}{t:ATxn}{more:List UInt8}(ht:aT t=0)(hz:0<l.length→aA l<t.zxid)(hd:s.drop at_=(cE t).1++more) :
  fS s (f+1) at_ l=fS s f (at_+(cE t).1.length) (l++[t]):=by
 have e:=NP ht more;rw[gP (n:=(cE t).1.length) (by rw[hd,e]) (by rw[hd,e];rintro⟨h0,h1⟩;have:=hz h0;simp only at h1;omega) (by rw[hd,e]),hd,e]
theorem wV(s:List UInt8):∀(r:List ATxn) (f at_:Nat) (l:List ATxn) (rest:List UInt8),logOk r→(0<l.length→0<r.length→aA l<(r.getD 0 default).zxid)→s.drop at_=encs r++rest→(cb rest).2.2≠0→r.length<f→
  fS s f at_ l=(l++r,at_+(encs r).length)
 | [],f,at_,l,rest,_,_,hd,hr,hf=>by
   obtain⟨f,rfl⟩:∃ g,f=g+1:=⟨f-1,by simp at hf;omega⟩;rw[fF,Sp] at hd;rw[fR (.inl (by rw[hd];exact hr)),R5,fF];rfl
 | t :: r,f,at_,l,rest,ho,hz,hd,hr,hf=>by
   obtain⟨f,rfl⟩:∃ g,f=g+1:=⟨f-1,by simp at hf;omega⟩;rw[eC,Sd] at hd;rw[Cw (ho.2 t (St ..)) (fun h0=>hz h0 (by simp)) hd];rw[wV s r f _ (l++[t]) rest (DG ho) (fun _ h1=>?_) (by rw[←Sv,hd,Vu rfl]) hr (by simp at hf;omega),eC,Ry,Sd,SL]
   ·rfl
   ·rw[fQ]
    have:=ho.1 0 (by simp;omega);simpa using this
theorem L9{t:ATxn}(h:aT t=0):31≤(cE t).1.length:=by rw[nF h];omega
theorem Mm{l:List ATxn}(h:∀ t,t∈l→aT t=0):l.length*31≤(encs l).length:=by
 induction l with
 |nil=>exact RI _
 | cons t l ih=>
   have h1:=L9 (h t (St ..));have h2:=ih fun x hx=>h x (R6 _ hx)
   rw[eC,Ry,RD];omega
theorem Bb{l:List ATxn}(h:logOk l){rest:List UInt8}(hr:(cb rest).2.2≠0):scanT (encs l++rest)=(l,(encs l).length):=by have hl:=Mm h.2;unfold scanT;rw[wV _ l _ 0 [] rest h (fun h0=>absurd h0 (by decide)) rfl hr (by rw[Ry];omega),Sp,SB]
theorem oH{l:List ATxn}(h:logOk l)(k:Nat):logOk (l.take k):=by
 refine⟨fun j hj=>?_,fun x hx=>h.2 x (Sf hx)⟩;rw[RH] at hj;have g:∀ i,i<k→(l.take k).getD i default=l.getD i default:=fun i hi=>by rw[Ru,SZ,Rx hi,Ru]
 rw[g j (by omega),g (j+1) (by omega)];exact h.1 j (by omega)
theorem Bf:∀(l:List ATxn) (m:Nat),(∀ t,t∈l→aT t=0)→∃ k rest,k≤l.length∧(encs l).take m=encs (l.take k)++rest∧(cb rest).2.2≠0∧(∀ a,a≤l.length→(encs (l.take a)).length≤m→a≤k)
 |[],m,_=>⟨0,[],RE _,by rw[fF,List.take_nil];rfl,EQ,fun a ha _=>ha⟩
 | t :: l,m,hg=>by
   have ht:=hg t (St ..)
   by_cases hm:m<(cE t).1.length
   ·refine⟨0,(cE t).1.take m,RI _,?_,Ny ht hm,fun a ha hl=>?_⟩
    ·rw[eC,Sa (by omega),S4,fF,Sp]
    ·rcases a with _|a
     ·exact RE _
     ·rw[S3,eC,Ry] at hl;omega
   ·obtain⟨k,rest,h1,h2,h3,h4⟩:=Bf l (m-(cE t).1.length) fun x hx=>hg x (R6 _ hx)
    refine⟨k+1,rest,by simp;omega,?_,h3,fun a ha hl=>?_⟩
    ·rw[eC,V9,Rz (by omega),h2,S3,eC,Sd]
    ·rcases a with _|a
     ·exact RI _
     ·rw[S3,eC,Ry] at hl
      have:=h4 a (by simpa using ha) (by omega);omega
theorem JG{l:List ATxn}(h:logOk l)(m:Nat):∃ k,k≤l.length∧scanT ((encs l).take m)=(l.take k,(encs (l.take k)).length)∧(∀ a,a≤l.length→(encs (l.take a)).length≤m→a≤k):=by obtain⟨k,rest,h1,h2,h3,h4⟩:=Bf l m h.2;exact⟨k,h1,by rw[h2,Bb (oH h k) h3],h4⟩
def epN:List UInt8:=[101,112,111,99,104]
def mkD(e:Option (List UInt8))(s t:List UInt8):List AFile:=
 match e with
 |none=>[⟨logN,s,t⟩]
 |some x=>[⟨epN,x,[]⟩,⟨logN,s,t⟩]
def okD(e:Option (List UInt8))(s t:List UInt8):Prop:=(∀ x,e=some x→x.length≤1048576)∧s.length+t.length≤1048576
theorem vm:aU epN=true:=by decide
theorem Ik:epN<logN:=by decide
theorem gu{e:Option (List UInt8)}{s t:List UInt8}(h:okD e s t):bE (mkD e s t)=true:=by
 rw[iO];obtain⟨h1,h2⟩:=h;cases e with
 | none=>
   refine⟨by show 1≤16;decide,fun k hk=>?_⟩;have hk0:k=0:=by have:k<1:=hk;omega
   subst hk0;exact⟨⟨gI,h2⟩,fun h=>absurd h (by decide)⟩
 | some x=>
   have h3:=h1 x rfl;refine⟨by show 2≤16;decide,fun k hk=>?_⟩;have hk0:k=0∨k=1:=by have:k<2:=hk;omega
   rcases hk0 with rfl|rfl
   ·exact⟨⟨vm,by show x.length+0≤_;omega⟩,fun h=>absurd h (by decide)⟩
   ·exact⟨⟨gI,h2⟩,fun _=>Ik⟩
theorem tp:place [logN] logN=0:=by decide
theorem tv:place [epN,logN] logN=1:=by decide
theorem FL:place [logN] epN=0:=by decide
theorem rg:place [epN,logN] epN=0:=by decide
theorem iS(s t:List UInt8):(mkD none s t).map AFile.name=[logN]:=rfl
theorem kb(x s t:List UInt8):(mkD (some x) s t).map AFile.name=[epN,logN]:=rfl
theorem Dp(e:Option (List UInt8))(s t:List UInt8):logN∈(mkD e s t).map AFile.name:=by
 cases e with
 |none=>rw[iS];exact SM.2 rfl
 |some x=>rw[kb];simp
theorem zb(e:Option (List UInt8))(s t:List UInt8):(mkD e s t).getD (place ((mkD e s t).map AFile.name) logN) default=⟨logN,s,t⟩:=by
 cases e with
 |none=>rw[iS,tp];rfl
 |some x=>rw[kb,tv];rfl
theorem yH(e:Option (List UInt8))(s t s2 t2:List UInt8):(mkD e s t).set (place ((mkD e s t).map AFile.name) logN) ⟨logN,s2,t2⟩=mkD e s2 t2:=by
 cases e with
 |none=>rw[iS,tp];rfl
 |some x=>rw[kb,tv];rfl
theorem Iu{e:Option (List UInt8)}{s t:List UInt8}(h:okD e s t):readD (mkD e s t) logN=(s++t,0):=by unfold readD;rw[Rw (by rw[gu h];decide),Rx (Dp e s t),zb]
theorem IE{x s t:List UInt8}(h:okD (some x) s t):readD (mkD (some x) s t) epN=(x,0):=by unfold readD;rw[Rw (by rw[gu h];decide),kb,Rx (by simp),rg];show(x++[],(0:Int))=_;rw[R5]
theorem HF{s t:List UInt8}(h:okD none s t):readD (mkD none s t) epN=([],7):=by unfold readD;rw[Rw (by rw[gu h];decide),iS,Rw (by decide)]
theorem Hr{e:Option (List UInt8)}{s t x:List UInt8}(h:okD e s t)(hx:s.length+t.length+x.length≤1048576):aD (mkD e s t) logN x=(⟨mkD e s (t++x)⟩,0):=by unfold aD;rw[Rw (by rw[gu h];decide),Rw (by rw[gI];decide),Rx (Dp e s t),zb];simp only;rw[Rw (by omega),yH]
theorem Dv{e:Option (List UInt8)}{s t:List UInt8}(h:okD e s t)(F:AFile→AFile×Int){s2 t2:List UInt8}(hF:F ⟨logN,s,t⟩=(⟨logN,s2,t2⟩,0)):bj (mkD e s t) logN F=(⟨mkD e s2 t2⟩,0):=by rw[gc (gu h) (Dp e s t) (by rw[zb,hF]),zb,hF,yH]
theorem Fn{e:Option (List UInt8)}{s t:List UInt8}(h:okD e s t){x:ATxn}(hx:aT x=0)(hl:s.length+t.length+(cE x).1.length≤1048576)(safe:Bool) :
  cI (mkD e s t) x safe=(⟨if safe then mkD e (s++(t++(cE x).1)) [] else mkD e s (t++(cE x).1)⟩,0):=by
 unfold cI;rw[Rw (by rw[hx];decide),Hr h hl];cases safe with
 |false=>rw[Rx (.inr rfl)];rfl
 | true=>
   rw[Rw (by simp)];have h2:okD e s (t++(cE x).1):=⟨h.1,by rw[Ry];omega⟩;exact Dv h2 lL rfl
theorem Jn{e:Option (List UInt8)}{s t:List UInt8}(h:okD e s t){keep:Int}(hk:0≤keep):eJ (mkD e s t) keep=(⟨mkD e (s++t.take keep.toNat) []⟩,0):=by
 unfold eJ;rw[Rw (by rw[gu h];simp;omega)];cases e with
 |none=>rfl
 |some x=>show((⟨[⟨epN,x++List.take keep.toNat [],[]⟩,_]⟩:XQ),(0:Int))=_;rw[List.take_nil,R5];rfl
theorem lG{e:Option (List UInt8)}{s t:List UInt8}(h:okD e s t):recoverD (mkD e s t)=((scanT (s++t)).1,⟨mkD e (encs (scanT (s++t)).1) []⟩,0):=by have hr:=Iu h;rw[H2 (by rw[hr];exact(by decide:¬ (0:Int)=7)) (by rw[hr]),mW (by rw[hr]),hr,yH]
theorem Dn(s:List UInt8):(encs (scanT s).1).length≤s.length:=by obtain⟨_,h2,h3⟩:=p9 s;rw[h2,RH];omega
theorem MN{e:Option (List UInt8)}{s t:List UInt8}(h:okD e s t)(z:Int):keepD (mkD e s t) z=(⟨mkD e (encs (keepL (scanT (s++t)).1 z)) []⟩,0):=by rw[pk (by rw[lG h]),lG h,yH]
theorem Dd{x s t:List UInt8}(h:okD (some x) s t):bo (mkD (some x) s t) epN=(⟨mkD none s t⟩,0):=by unfold bo;rw[Rw (by rw[gu h];decide),kb,Rx (by simp),rg];rfl
theorem Du{s t:List UInt8}(h:okD none s t):bo (mkD none s t) epN=(default,7):=by unfold bo;rw[Rw (by rw[gu h];decide),iS,Rw (by decide)]
theorem Ir{s t y:List UInt8}(h:okD none s t)(hy:y.length≤1048576):aD (mkD none s t) epN y=(⟨[⟨epN,[],y⟩,⟨logN,s,t⟩]⟩,0):=by unfold aD;rw[Rw (by rw[gu h];decide),Rw (by rw[vm];decide),iS,Rw (by decide),Rw (by show ¬ 16≤1;decide),Rw (by omega),FL];rfl
theorem NG{s t y:List UInt8}(h:okD none s t)(hy:y.length≤1048576):bj [⟨epN,[],y⟩,⟨logN,s,t⟩] epN lL=(⟨mkD (some y) s t⟩,0):=by
 have hg:bE [⟨epN,[],y⟩,⟨logN,s,t⟩]=true:=by
  rw[iO];refine⟨by show 2≤16;decide,fun k hk=>?_⟩;have hk0:k=0∨k=1:=by have:k<2:=hk;omega
  rcases hk0 with rfl|rfl
  ·exact⟨⟨vm,by show 0+y.length≤_;omega⟩,fun h=>absurd h (by decide)⟩
  ·exact⟨⟨gI,h.2⟩,fun _=>Ik⟩
 have hn:([⟨epN,[],y⟩,⟨logN,s,t⟩]:List AFile).map AFile.name=[epN,logN]:=rfl;rw[gc hg (by rw[hn];simp) rfl,hn,rg];rfl
def lh(a b:XP):Bool:=decide (aA b.log<aA a.log)||(decide (aA a.log=aA b.log)&&decide (b.id<a.id))
def cD(p:XP):Int×Int:=if epZ (aA p.log)<p.epoch then(if(mkZ p.epoch 0).2≠0 then(0,(mkZ p.epoch 0).2) else jw (mkZ p.epoch 0).1) else jw (aA p.log)
def iz(p:XP):Bool:=decide (p.id<0)||decide (3≤p.id)||decide (p.epoch<0)||decide (2147483647<p.epoch)
def uQ(l:List XP)(i:Nat):Bool:=(l.take i).any fun q=>decide (q.id=(l.getD i default).id)
def gf(l:List XP)(i:Nat):Int:=if uQ l i then 8 else if iz (l.getD i default) then 3 else 0
def bx(l:List XP):Nat→Int
 |0=>0
 |n+1=>if bx l n=0 then gf l n else bx l n
def mx(a b:Int):Int:=if a<b then b else a
def cd(l:List XP):Nat→Nat×Int
 |0=>(0,0)
 |n+1=>(if lh (l.getD n default) (l.getD (cd l n).1 default) then n else(cd l n).1,mx (mx (cd l n).2 (l.getD n default).epoch) (epZ (aA (l.getD n default).log)))
def bQ(l:List XP):Int×Int×Int:=
 if bx l l.length=0 then
  if l.length<2 then(0,0,14) else if 2147483647≤(cd l l.length).2 then(0,0,6) else(((cd l l.length).1:Int),(cd l l.length).2+1,0)
 else(0,0,bx l l.length)
def gw(c:XM)(z:Int):XM×Int:=if z<c.seen then(default,15) else({ c with seen:=z },0)
def LB(s:Int):XM×Int:=if s<1∨2147483647<s then(default,3) else(⟨s,0,[]⟩,0)
def normE(e:AEntry):AEntry:=if e.there=true then e else⟨e.path,[],e.there⟩
def fO(l:List AEntry)(e:AEntry):List AEntry:=
 if e.path∈l.map AEntry.path then l.set (place (l.map AEntry.path) e.path) (normE e) else l.insertIdx (place (l.map AEntry.path) e.path) (normE e)
def fu(l:List AEntry)(key:List UInt8):List AEntry:=l.filter fun f=>decide (f.path≠key)
def lR(s:Int)(l:List AEntry)(n:XJ):List AEntry:=if n.session=s∧n.event.kind≠4 then fu l n.event.path else l
def dS(s:Int)(l:List AEntry)(ns:List XJ):List AEntry:=ns.foldl (lR s) l
theorem yX(l:List AEntry)(h:l.length*40≤140737488351232):ab Tryz.prog [] 230 [.d (.sl 3 (l.map AEntry.row))] (own 3 (l.map AEntry.row)):=by
 refine zJ Tryz.func230 Tryz.ntmps230 Tryz.results230 ?_;simp only[go_sem]
 (repeat' first
|(with_reducible refine AR.f ?_)
|refine bI (by decide) ?_
|(with_reducible refine AWP.cond rfl ?_ ?_<;>intro hc<;>(try simp only[hcs,RN,RY,RZ] at hc))
|((first|((first|(with_reducible first|refine zR ?_));intro K hK)|((first|(with_reducible refine aunder_i ?_ ?_<;>intro hg)|with_reducible intro hg)<;>(first|(exfalso;simp at hg;done)|(have hg':=hg;(try simp only[hcs,RN,RY,RZ] at hg');(try simp only[hg])))))<;>(try simp(disch:=omega) only[go_sem,aa])<;>(repeat' with_reducible refine Sg ?_ ?_)<;>(try(with_reducible refine hK _ ?_;clear hK K)))
|omega)
 ·have e:l.length=0:=by
   rcases Tp l.length with h0|h0
   ·exact h0
   ·rw[hg h0] at hc;simp at hc
  rw[gQ e]
  (refine mE (by first|exact .inl rfl|exact .inr rfl) rfl ?_ ?_<;>simp(disch:=omega) only[go_sem,aa])
 ·(refine mU 1 (by first|exact .inl rfl|exact .inr rfl) rfl ?_ rfl rfl ?_<;>(try simp(disch:=omega) only[go_sem,aa,RC]))
theorem qm(c:XM)(h:c.cache.length*40≤140737488351232):ab Tryz.prog [] 178 [c.av] (ew (.agg [I c.session,I c.seen,.osl 0 3 0 c.cache.length]) [.rows 3 (c.cache.map AEntry.row)]):=by
 refine zJ Tryz.func178 Tryz.ntmps178 Tryz.results178 ?_;simp only[go_sem]
 (refine zW qw (z1 (yX _ h)) X5 (z1 ?_)<;>(repeat with_reducible intro hc))
 (refine zOp X5 ?_;simp(disch:=omega) only[go_sem,aa];refine WV ?_ (af.same ⟨rfl,rfl⟩);refine zV [2] rfl rfl rfl rfl ?_ ?_<;>simp(disch:=omega) only[go_sem,aa,UL,UM])
theorem ph(c:XM)(h:c.cache.length*40≤140737488351232):ab Tryz.prog [] 161 [c.av] (ret c.av):=by
 refine zJ Tryz.func161 Tryz.ntmps161 Tryz.results161 ?_;simp only[go_sem]
 (refine zW qw zn X5 (z1 ?_)<;>(repeat with_reducible intro hc))
 all_goals exact zEe X5
theorem Oa(c:XM)(z:Int)(h:c.cache.length*40≤140737488351232):ab Tryz.prog [] 110 [c.av,I z] (ret (.tup [(gw c z).1.av,I (gw c z).2])):=by
 refine zJ Tryz.func110 Tryz.ntmps110 Tryz.results110 ?_;simp only[go_sem]
 (refine zW qw (z1 (qm c h)) X5 (z2 ?_ ?_)<;>(repeat with_reducible intro hc))
 all_goals(unfold gw)
 ·rw[Rx hc];exact zEe dfl
 ·rw[Rw (by omega)];exact zEe X5
theorem G6(c:XM)(z:Int)(h:c.cache.length*40≤140737488351232):ab Tryz.prog [] 97 [c.av,I z] (ret (.tup [(gw c z).1.av,I (gw c z).2])):=by
 refine zJ Tryz.func97 Tryz.ntmps97 Tryz.results97 ?_;simp only[go_sem]
 (refine zW qw (z1 (ph c h)) X5 (z2 ?_ ?_)<;>(repeat with_reducible intro hc))
 all_goals(unfold gw)
 ·rw[Rx hc];exact zEe dfl
 ·rw[Rw (by omega)];exact zEe X5
theorem OO(s:Int):ab Tryz.prog [] 54 [I s] (ret (.tup [(LB s).1.av,I (LB s).2])):=by
 refine zJ Tryz.func54 Tryz.ntmps54 Tryz.results54 ?_;simp only[go_sem]
 (refine zW qw zn X5 (z2 ?_ ?_)<;>(repeat with_reducible intro hc))
 all_goals(unfold LB)
 ·rw[Rx (by omega)];exact zEe dfl
 ·rw[Rw (by omega)];exact zEe X5
theorem sQ(c:XM)(key:List UInt8)(h:c.cache.length*40≤140737488351232)(hr:aE (c.cache.map AEntry.path)) :
  ab Tryz.prog [] 180 [c.av,S key] (ret (.tup [I (place (c.cache.map AEntry.path) key),B (decide (key∈c.cache.map AEntry.path))])):=by
 refine zJ Tryz.func180 Tryz.ntmps180 Tryz.results180 ?_;simp only[go_sem];refine zW qw (z1 (FH _ key h hr)) X5 (z1 ?_);exact zEe X5
theorem Bw{e:AEntry}(h:e.there=false):normE e=⟨e.path,[],e.there⟩:=by unfold normE;rw[Rw (by simp[h])]
theorem wS{e:AEntry}(h:e.there=true):normE e=⟨e.path,e.data,e.there⟩:=by unfold normE;rw[Rx h]
theorem pK{l:List AEntry}(i:Nat)(x:AEntry)(h:i≤l.length):(l.insertIdx i x).length=l.length+1:=by rw[cT _ _ _ h];simp;omega
theorem xV(l:List AEntry)(i:Nat)(x:AEntry)(h:i≤l.length):((l.insertIdx i x).map AEntry.row).take (l.length+1)=(l.insertIdx i x).map AEntry.row:=Rz (by rw[RC,pK _ _ h];omega)
theorem nE{l:List AEntry}{key:List UInt8}:place (l.map AEntry.path) key≤l.length:=by have:=fc (l.map AEntry.path) key;simpa using this
theorem nq{l:List AEntry}{key:List UInt8}(h:aE (l.map AEntry.path))(h2:key∈l.map AEntry.path):place (l.map AEntry.path) key<l.length:=by have:=(ag h h2).1;simpa using this
theorem MB(c:XM)(e:AEntry)(h:c.cache.length≤100000)(hr:aE (c.cache.map AEntry.path)) :
  ab Tryz.prog [] 112 [c.av,e.av] (ret (XM.av ⟨c.session,c.seen,fO c.cache e⟩)):=by
 have hb:c.cache.length*40≤140737488351232:=by omega
 have hpl:=nE (l:=c.cache) (key:=e.path)
 by_cases hm:e.path∈c.cache.map AEntry.path
 ·have hlt:=nq hr hm
  unfold fO;rw[Rx hm];refine zJ Tryz.func112 Tryz.ntmps112 Tryz.results112 ?_;simp only[go_sem]
  (refine zW qw (z2 (qm c hb) ((sQ c e.path hb hr).re (by rw[decide_eq_true hm]))) @AEntry.rset (z2 ?_ ?_)<;>(repeat with_reducible intro hc))
  ·rw[Bw (by assumption)]
   exact zEe @bM
  ·rw[wS (by assumption)]
   exact zEe @bM
 ·unfold fO;rw[Rw hm]
  refine zJ Tryz.func112 Tryz.ntmps112 Tryz.results112 ?_;simp only[go_sem]
  (refine zW qw (z4 (qm c hb) ((sQ c e.path hb hr).re (by rw[RM hm])) (ow (vi (c.cache.map AEntry.row) [.str e.path,.str [],.bool e.there] (place (c.cache.map AEntry.path) e.path) (by simpa using hpl) (by simp only[RC];omega))) (ow (vi (c.cache.map AEntry.row) [.str e.path,.str e.data,.bool e.there] (place (c.cache.map AEntry.path) e.path) (by simpa using hpl) (by simp only[RC];omega)))) (zx @AEntry.rset @AEntry.rins) (z2 ?_ ?_)<;>(repeat with_reducible intro hc))
  ·rw[Bw (by assumption)]
   have:=pK (l:=c.cache) (place (c.cache.map AEntry.path) e.path) ⟨e.path,[],e.there⟩ hpl;exact zEe @xV
  ·rw[wS (by assumption)]
   have:=pK (l:=c.cache) (place (c.cache.map AEntry.path) e.path) ⟨e.path,e.data,e.there⟩ hpl;exact zEe @xV
theorem uR(l:List AEntry)(key:List UInt8)(k:Nat)(h:k<l.length):fu (l.take (k+1)) key=if(l.getD k default).path≠key then fu (l.take k) key++[l.getD k default] else fu (l.take k) key:=by
 unfold fu;rw[aN l k h,Sn]
 by_cases e:(l.getD k default).path≠key
 ·rw[Rx e,SQ (by simpa using e)];rfl
 ·rw[Rw e,Sr (by simpa using e),SR,R5]
theorem vF{l:List AEntry}{key:List UInt8}(h:¬ key∈l.map AEntry.path):fu l key=l:=by unfold fu;rw[SI];intro f hf;rw[RB];intro e;exact h (SJ.2 ⟨f,hf,e⟩)
theorem dJ(l:List AEntry)(k:Nat):(l.map AEntry.path).getD k []=(l.getD k default).path:=cV AEntry.path l k default
theorem rY{l:List AEntry}{key:List UInt8}(hr:aE (l.map AEntry.path))(h:key∈l.map AEntry.path):fu l key=l.eraseIdx (place (l.map AEntry.path) key):=by
 have hp:=ag hr h;generalize place (l.map AEntry.path) key=p at *
 have hpl:p<l.length:=by simpa using hp.1
 have hne:∀ j,j<l.length→j≠p→(l.getD j default).path≠key:=fun j hj hjp e=>by
  have e1:(l.map AEntry.path).getD j []=key:=by rw[dJ];exact e
  rcases Tz hjp with h1|h1
  ·have:=aV hr h1 (by simpa using hpl);rw[e1,hp.2] at this;exact Sk _ this
  ·have:=aV hr h1 (by simpa using hj);rw[e1,hp.2] at this;exact Sk _ this
 have hpk:(l.getD p default).path=key:=by have:=hp.2;rwa[dJ] at this
 have hs:l=l.take p++l.getD p default::l.drop (p+1):=by rw[Ru,Rv hpl];simp
 have h1:(l.take p).filter (fun f=>decide (f.path≠key))=l.take p:=by
  rw[SI];intro f hf;obtain⟨j,hj,rfl⟩:=SF.1 hf
  have:=hne j (by omega) (by omega);rw[Ru,Rv (by omega)] at this;simpa using this
 have h2:(l.drop (p+1)).filter (fun f=>decide (f.path≠key))=l.drop (p+1):=by
  rw[SI];intro f hf;obtain⟨j,hj,rfl⟩:=S2.1 hf
  have:=hne (p+1+j) (by omega) (by omega);rw[Ru,Rv (by omega)] at this;simpa using this
 rw[eQ];unfold fu
 conv=>lhs;rw[hs]
 rw[Sn,Sr (by simp only[hpk];simp),h1,h2]
theorem F9(key:List UInt8):fu [] key=[]:=rfl
theorem rv(l:List AEntry)(key:List UInt8)(h:l.length*40≤140737488351232):ab Tryz.prog [] 164 [.d (.sl 3 (l.map AEntry.row)),S key] (ret (.d (.sl 3 ((fu l key).map AEntry.row)))):=by
 refine zJ Tryz.func164 Tryz.ntmps164 Tryz.results164 ?_;simp only[go_sem];refine zW qw zn X5 (z1 ?_);refine WR (WT 5 3 rfl) ?_;simp only[go_sem];refine WQ (ι:=Nat) (fun k=>k≤l.length) (fun k=>l.length-k) [1,8,9] (fun k=>[(10,I k),(5,.osl 0 3 0 (fu (l.take k) key).length)]) (fun k=>[.rows 3 ((fu (l.take k) key).map AEntry.row)]) 0 ?_ ?_ ?_
 ·omega
 ·simp only[go_sem,F9];exact zSm X5
 intro k hk;have hol:(fu (l.take k) key).length≤k:=RW (SK _ _) (S5 _ _);simp only[go_sem]
 (refine zW qw zn (zx @AEntry.rgetD (zx @ax @AEntry.rsnoc)) (z3 ?_ ?_ ?_)<;>(repeat with_reducible intro hc))
 ·refine⟨k+1,by omega,by omega,?_⟩
  rw[uR _ _ _ (by assumption),Rx hc];exact zFr [3] @List.length_append.{0}
 ·refine⟨k+1,by omega,by omega,?_⟩
  rw[uR _ _ _ (by assumption),Rw (by simpa using hc)];exact zFr [0] X5
 ·have e:k=l.length:=by omega
  subst e;simp only[RU];exact zEe X5
def jW(m:List AEntry)(q i:Nat)(x:AEntry):List AEntry:=if q<i then(m.take i).insertIdx q x else m.take i
theorem AM(m:List AEntry)(q i:Nat)(x:AEntry)(hi:i≤m.length):(jW m q i x).length≤i+1:=by
 unfold jW;split
 ·rw[pK _ _ (by simp;omega)];simp;omega
 ·simp;omega
theorem w8(m:List AEntry)(q:Nat)(x:AEntry):jW m q 0 x=[]:=by unfold jW;rw[Rw (by omega)];rfl
theorem rZ(m:List AEntry)(q i:Nat)(x:AEntry)(h:i<q)(hi:i<m.length):jW m q i x++[m.getD i default]=jW m q (i+1) x:=by unfold jW;rw[Rw (by omega),Rw (by omega),aN _ _ hi]
theorem E3(m:List AEntry)(i:Nat)(x:AEntry)(hi:i<m.length):(jW m i i x++[x])++[m.getD i default]=jW m i (i+1) x:=by
 unfold jW;rw[Rw (by omega),Rx (by omega),cT _ _ _ (by simp;omega),aN _ _ hi];have e:(m.take i).length=i:=by simp;omega
 rw[Sa (by omega),Ti (by omega)];simp[Rz (Uk e)]
theorem rB(m:List AEntry)(q i:Nat)(x:AEntry)(h:q<i)(hi:i<m.length):jW m q i x++[m.getD i default]=jW m q (i+1) x:=by
 unfold jW;rw[Rx h,Rx (by omega),aN _ _ hi,cT _ _ _ (by simp;omega),cT _ _ _ (by simp;omega)];have e:(m.take i).length=i:=by simp;omega
 rw[Sa (by omega),Ti (by omega)];simp
theorem Cc(m:List AEntry)(q:Nat)(x:AEntry)(h:q<m.length):jW m q m.length x=m.insertIdx q x:=by unfold jW;rw[Rx h,RU]
theorem wY(m:List AEntry)(x:AEntry):jW m m.length m.length x++[x]=m.insertIdx m.length x:=by unfold jW;rw[Rw (by omega),RU,cT _ _ _ (RE _),RU,Tt]
theorem pJ{l:List AEntry}{key:List UInt8}(hr:aE (l.map AEntry.path)):aE ((fu l key).map AEntry.path):=by
 have hp:∀ l:List AEntry,aE (l.map AEntry.path)↔List.Pairwise (· < ·) (l.map AEntry.path):=fun l=>by
  constructor
  ·intro h
   rw[SO];intro i j hi hj hij
   have:=aV h hij hj;rwa[Ru,Ru,Rv hi,Rv hj] at this
  ·intro h k hk
   rw[SO] at h
   have:=h k (k+1) (by omega) hk (by omega);rw[Ru,Ru,Rv (by omega),Rv hk];exact this
 rw[hp] at *
 rw[List.pairwise_map] at *
 exact hr.filter _
theorem Fk(l:List AEntry)(key:List UInt8):¬ key∈(fu l key).map AEntry.path:=by
 intro h;obtain⟨f,hf,e⟩:=SJ.1 h
 have:=(Tr.1 hf).2;simp[e] at this
theorem lf{l:List AEntry}{key:List UInt8}{j:Nat}(hj:j<place (l.map AEntry.path) key):(l.getD j default).path<key:=by have:=T4 (p:=fun x=>!decide (x<key)) (xs:=l.map AEntry.path) hj;have hl:j<(l.map AEntry.path).length:=Sy hj (fc _ _);rw[Bool.not_eq_false',RB] at this;rw[←dJ,Ru,Rv hl];exact this
theorem px{l:List AEntry}{key:List UInt8}{j:Nat}(hr:aE (l.map AEntry.path))(hn:¬ key∈l.map AEntry.path)(hj:place (l.map AEntry.path) key≤j)(hl:j<l.length):key<(l.getD j default).path:=by
 have hl':place (l.map AEntry.path) key<(l.map AEntry.path).length:=by simp;omega
 have h0:¬ (l.map AEntry.path).getD (place (l.map AEntry.path) key) []<key:=by have:=Un (p:=fun x=>!decide (x<key)) (xs:=l.map AEntry.path) (w:=hl');rw[SN,RT] at this;rw[Ru,Rv hl'];exact this
 have h1:¬ (l.map AEntry.path).getD j []<key:=by
  by_cases e:place (l.map AEntry.path) key=j
  ·rwa[e] at h0
  ·intro h2;exact h0 (S9 (aV hr (Nat.lt_of_le_of_ne hj e) (by simpa using hl)) h2)
 rw[dJ] at h1;refine gL h1 fun e=>hn ((aM _ [] key).2 ⟨j,by simpa using hl,by rw[dJ];exact e⟩)
theorem A9{l:List AEntry}{key:List UInt8}(hr:aE (l.map AEntry.path))(h:key∈l.map AEntry.path):place ((l.eraseIdx (place (l.map AEntry.path) key)).map AEntry.path) key=place (l.map AEntry.path) key:=by
 have hlt:=nq hr h;have hf:=(ag hr h).2;rw[dJ] at hf;refine go ?_ (fun j hj=>?_) fun hl=>?_
 ·rw[RC,Ud hlt];omega
 ·rw[dJ,Ru,List.getElem?_eraseIdx_of_lt hj,←Ru];exact lf hj
 ·rw[RC,Ud hlt] at hl
  rw[dJ,Ru,List.getElem?_eraseIdx_of_ge (RE _),←Ru]
  have:=aV hr (i:=place (l.map AEntry.path) key) (j:=place (l.map AEntry.path) key+1) (by omega) (by simp;omega);rw[dJ,dJ,hf] at this;exact fun h2=>Sk _ (S9 this h2)
theorem Kh{l:List AEntry}{e:AEntry}(hr:aE (l.map AEntry.path)):fO l e=(fu l e.path).insertIdx (place ((fu l e.path).map AEntry.path) e.path) (normE e):=by
 unfold fO;split
 ·rename_i hm
  have hlt:=nq hr hm;rw[rY hr hm,A9 hr hm];generalize place (l.map AEntry.path) e.path=p at *
  rw[cT _ _ _ (by rw[Ud hlt];omega),eQ,List.set_eq_take_append_cons_drop,Rx hlt];have e1:(l.take p).length=p:=by simp;omega
  rw[Sa (by omega),Ti (by omega)];simp[Rz (Uk e1)]
 ·rename_i hm
  rw[vF hm]
theorem EG(n:Nat):decide (n<0)=false:=by simp
theorem Bu(n:Nat):decide (n<n+1)=true:=by simp
theorem ra(l:List AEntry)(key:List UInt8):(fu l key).length≤l.length:=SK _ _
theorem AH(c:XM)(e:AEntry)(h:c.cache.length≤100000)(hr:aE (c.cache.map AEntry.path)) :
  ab Tryz.prog [] 100 [c.av,e.av] (ret (XM.av ⟨c.session,c.seen,fO c.cache e⟩)):=by
 have hb:c.cache.length*40≤140737488351232:=by omega
 have hrm:=pJ (key:=e.path) hr;have hnm:=Fk c.cache e.path;rw[Kh hr];obtain⟨q,dt,th⟩:=e;simp only at hrm hnm ⊢;cases th
 ·have hn:normE ⟨q,dt,false⟩=⟨q,[],false⟩:=rfl
  rw[hn];refine zJ Tryz.func100 Tryz.ntmps100 Tryz.results100 ?_;simp only[go_sem]
  (refine zW qw (z1 (rv _ q hb)) X5 (z1 ?_)<;>(repeat with_reducible intro hc))
  generalize hm:fu c.cache q=m at *
  have hml:m.length≤100000:=by rw[←hm];exact RW (ra _ _) h
  have hP1:=fun j=>@lf m q j
  have hP2:=fun j=>@px m q j hrm hnm
  have hPl:=nE (l:=m) (key:=q);generalize place (m.map AEntry.path) q=P at *
  refine WR (WT 5 3 rfl) ?_;simp only[go_sem];refine WQ (ι:=Nat) (fun i=>i≤m.length) (fun i=>m.length-i) [2,3,4,17,18] (fun i=>[(19,I i),(6,B (decide (P<i))),(5,.osl 3 3 0 (jW m P i ⟨q,[],false⟩).length)]) (fun i=>[.cells [I c.session,I c.seen,.d (.sl 3 (c.cache.map AEntry.row))],.cells [.d (.str q),.d (.str []),.d (.bool false)],.cells [I 0,I 0,.d (.sc (.slice none 0 0))],.rows 3 ((jW m P i ⟨q,[],false⟩).map AEntry.row)]) 0 ?_ ?_ ?_
  ·omega
  ·simp only[go_sem,w8,EG];exact zSm X5
  intro i hi;have hil:=AM m P i ⟨q,[],false⟩ hi;simp only[go_sem]
  (refine zW qw zn (zx @AEntry.rgetD (zx @ax (zx @eE (zx @AEntry.rsnoc @ey)))) (z4 ?_ ?_ ?_ ?_)<;>(repeat with_reducible intro hc))
  ·have hPi:P=i:=R4 fun h1=>hc.2.1 (hP1 i (by omega))
   subst hPi;refine⟨P+1,by omega,by omega,?_⟩;rw[←E3 _ _ _ (by assumption)];exact zFr [0,1,2,8] (zx @List.length_append.{0} @Bu)
  ·refine⟨i+1,by omega,by omega,?_⟩
   by_cases hPi:P<i
   ·have e0:decide (P<i)=true:=decide_eq_true hPi
    have e1:decide (P<i+1)=true:=decide_eq_true (by omega);rw[←rB _ _ _ _ hPi (by assumption)];exact zFr [0,1,2,6] (zx @List.length_append.{0} (zx @e1 @e0))
   ·have hlt:i<P:=R4 fun h1=>by
     have h2:=hP2 i (by omega) (by assumption);rcases hc with c|c|c
     ·exact hPi c
     ·exact Sk _ (S9 c h2)
     ·rw[c] at h2;exact Sk _ h2
    have e1:decide (P<i+1)=decide (P<i):=by rw[RM (by omega),RM (by omega)]
    rw[←rZ _ _ _ _ hlt (by assumption)];exact zFr [0,1,2,6] (zx @List.length_append.{0} @e1)
  ·have e1:i=m.length:=by omega
   have e2:P=m.length:=by omega
   subst e1;subst e2;rw[←wY];exact zEe (zx @List.length_append.{0} @eE)
  ·have e1:i=m.length:=by omega
   subst e1;rw[←Cc _ _ _ hc];exact zEe X5
 ·have hn:normE ⟨q,dt,true⟩=⟨q,dt,true⟩:=rfl
  rw[hn];refine zJ Tryz.func100 Tryz.ntmps100 Tryz.results100 ?_;simp only[go_sem]
  (refine zW qw (z1 (rv _ q hb)) X5 (z1 ?_)<;>(repeat with_reducible intro hc))
  generalize hm:fu c.cache q=m at *
  have hml:m.length≤100000:=by rw[←hm];exact RW (ra _ _) h
  have hP1:=fun j=>@lf m q j
  have hP2:=fun j=>@px m q j hrm hnm
  have hPl:=nE (l:=m) (key:=q);generalize place (m.map AEntry.path) q=P at *
  refine WR (WT 5 3 rfl) ?_;simp only[go_sem];refine WQ (ι:=Nat) (fun i=>i≤m.length) (fun i=>m.length-i) [2,3,4,17,18] (fun i=>[(19,I i),(6,B (decide (P<i))),(5,.osl 3 3 0 (jW m P i ⟨q,dt,true⟩).length)]) (fun i=>[.cells [I c.session,I c.seen,.d (.sl 3 (c.cache.map AEntry.row))],.cells [.d (.str q),.d (.str dt),.d (.bool true)],.cells [I 0,I 0,.d (.sc (.slice none 0 0))],.rows 3 ((jW m P i ⟨q,dt,true⟩).map AEntry.row)]) 0 ?_ ?_ ?_
  ·omega
  ·simp only[go_sem,w8,EG];exact zSm X5
  intro i hi;have hil:=AM m P i ⟨q,dt,true⟩ hi;simp only[go_sem]
  (refine zW qw zn (zx @AEntry.rgetD (zx @ax (zx @eE (zx @AEntry.rsnoc @ey)))) (z4 ?_ ?_ ?_ ?_)<;>(repeat with_reducible intro hc))
  ·have hPi:P=i:=R4 fun h1=>hc.2.1 (hP1 i (by omega))
   subst hPi;refine⟨P+1,by omega,by omega,?_⟩;rw[←E3 _ _ _ (by assumption)];exact zFr [0,1,2,8] (zx @List.length_append.{0} @Bu)
  ·refine⟨i+1,by omega,by omega,?_⟩
   by_cases hPi:P<i
   ·have e0:decide (P<i)=true:=decide_eq_true hPi
    have e1:decide (P<i+1)=true:=decide_eq_true (by omega);rw[←rB _ _ _ _ hPi (by assumption)];exact zFr [0,1,2,6] (zx @List.length_append.{0} (zx @e1 @e0))
   ·have hlt:i<P:=R4 fun h1=>by
     have h2:=hP2 i (by omega) (by assumption);rcases hc with c|c|c
     ·exact hPi c
     ·exact Sk _ (S9 c h2)
     ·rw[c] at h2;exact Sk _ h2
    have e1:decide (P<i+1)=decide (P<i):=by rw[RM (by omega),RM (by omega)]
    rw[←rZ _ _ _ _ hlt (by assumption)];exact zFr [0,1,2,6] (zx @List.length_append.{0} @e1)
  ·have e1:i=m.length:=by omega
   have e2:P=m.length:=by omega
   subst e1;subst e2;rw[←wY];exact zEe (zx @List.length_append.{0} @eE)
  ·have e1:i=m.length:=by omega
   subst e1;rw[←Cc _ _ _ hc];exact zEe X5
theorem JW{s:Int}{l:List AEntry}(n:XJ)(hr:aE (l.map AEntry.path)):aE ((lR s l n).map AEntry.path)∧(lR s l n).length≤l.length:=by
 unfold lR;split
 ·exact⟨pJ hr,ra _ _⟩
 ·exact⟨hr,RE _⟩
theorem tQ{s:Int}:∀(ns:List XJ) {l:List AEntry},aE (l.map AEntry.path)→aE ((dS s l ns).map AEntry.path)∧(dS s l ns).length≤l.length
 |[],_,hr=>⟨hr,RE _⟩
 | n::ns,l,hr=>by
   obtain⟨h1,h2⟩:=JW (s:=s) n hr;obtain⟨h3,h4⟩:=tQ (s:=s) ns h1;exact⟨h3,RW h4 h2⟩
theorem gM(s:Int)(l:List AEntry)(ns:List XJ)(k:Nat)(h:k<ns.length):dS s l (ns.take (k+1))=lR s (dS s l (ns.take k)) (ns.getD k default):=by unfold dS;rw[aN _ _ h,Tm];rfl
theorem u5{s:Int}{l:List AEntry}{n:XJ}(h:¬ (n.session=s∧n.event.kind≠4)):lR s l n=l:=by unfold lR;rw[Rw h]
theorem rr{s:Int}{l:List AEntry}{n:XJ}(h:n.session=s∧n.event.kind≠4):lR s l n=fu l n.event.path:=by unfold lR;rw[Rx h]
theorem tL(s:Int)(l:List AEntry):dS s l []=l:=rfl
theorem CC(c:XM)(l:List XJ)(h:c.cache.length≤100000)(hl:l.length*32≤140737488351232)(hr:aE (c.cache.map AEntry.path)) :
  ab Tryz.prog [] 160 [c.av,.d (.sl 3 (l.map XJ.row))] (ret (XM.av ⟨c.session,c.seen,dS c.session c.cache l⟩)):=by
 have hb:c.cache.length*40≤140737488351232:=by omega
 refine zJ Tryz.func160 Tryz.ntmps160 Tryz.results160 ?_;simp only[go_sem];refine zW qw (z1 (ph c hb)) X5 (z1 ?_);refine WQ (ι:=Nat) (fun k=>k≤l.length) (fun k=>l.length-k) [2,4,9,10] (fun k=>[(11,I k)]) (fun k=>[.cells [I c.session,I c.seen,.d (.sl 3 ((dS c.session c.cache (l.take k)).map AEntry.row))],.cells [I 0,I 0,.d (.sc (.slice none 0 0))]]) 0 ?_ ?_ ?_
 ·omega
 ·simp only[go_sem,tL];exact zSm X5
 intro k hk;obtain⟨hr1,hn1⟩:=tQ (s:=c.session) (l.take k) hr;have hb1:(dS c.session c.cache (l.take k)).length*40≤140737488351232:=by omega
 simp only[go_sem]
 (refine zW qw (z1 (rv (dS c.session c.cache (l.take k)) (l.getD k default).event.path hb1)) @XJ.rgetD (z3 ?_ ?_ ?_)<;>(repeat with_reducible intro hc))
 ·refine⟨k+1,by omega,by omega,?_⟩
  rw[gM _ _ _ _ (by assumption),rr (by assumption)];exact zFr [0,1] X5
 ·refine⟨k+1,by omega,by omega,?_⟩
  rw[gM _ _ _ _ (by assumption),u5 (fun h=>hc.elim (fun x=>x h.1) (fun x=>h.2 x))];exact zFr [0,1] X5
 ·have e:k=l.length:=by omega
  subst e;simp only[RU];exact zEe X5
theorem An(l:List XP)(B:Int)(hB:0≤B)(he:∀ k,k<l.length→(l.getD k default).epoch≤B∧epZ (aA (l.getD k default).log)≤B):∀ n,n≤l.length→
  (∀ k,k<n→aA (l.getD k default).log≤aA (l.getD (cd l n).1 default).log)∧(∀ k,k<n→(l.getD k default).epoch≤(cd l n).2)∧0≤(cd l n).2∧(cd l n).2≤B∧((cd l n).1<n∨(cd l n).1=0)
 |0,_=>⟨fun k h=>absurd h (by omega),fun k h=>absurd h (by omega),Su _,hB,.inr rfl⟩
 | n + 1,hn=>by
   obtain⟨h1,h2,h3,h4,h5⟩:=An l B hB he n (by omega);obtain⟨e1,e2⟩:=he n (by omega);rw[show cd l (n+1)=(if lh (l.getD n default) (l.getD (cd l n).1 default) then n else(cd l n).1,mx (mx (cd l n).2 (l.getD n default).epoch) (epZ (aA (l.getD n default).log))) from rfl];simp only;generalize cd l n=q at h1 h2 h3 h4 h5 ⊢
   have hm1:q.2≤mx (mx q.2 (l.getD n default).epoch) (epZ (aA (l.getD n default).log))∧(l.getD n default).epoch≤mx (mx q.2 (l.getD n default).epoch) (epZ (aA (l.getD n default).log))∧mx (mx q.2 (l.getD n default).epoch) (epZ (aA (l.getD n default).log))≤B:=by
    unfold mx
    repeat' split
    all_goals omega
   refine⟨fun k hk=>?_,fun k hk=>?_,by omega,hm1.2.2,?_⟩
   ·by_cases ha:lh (l.getD n default) (l.getD q.1 default)=true
    ·rw[Rx ha]
     by_cases e:k=n
     ·subst e;exact Su _
     ·have:=h1 k (by omega)
      unfold lh at ha;simp only[SC,RK,RB] at ha;omega
    ·rw[Rw ha]
     by_cases e:k=n
     ·subst e
      unfold lh at ha;simp only[SC,RK,RB] at ha;omega
     ·exact h1 k (by omega)
   ·by_cases e:k=n
    ·subst e;exact hm1.2.1
    ·have:=h2 k (by omega);omega
   ·split
    ·exact .inl (by omega)
    ·omega
theorem n9{l:List XP}(h:∀ i,i<l.length→gf l i=0):∀ n,n≤l.length→bx l n=0
 |0,_=>rfl
 | n+1,hn=>by
   rw[bx,Rx (n9 h n (by omega))];exact h n (by omega)
theorem Lf{l:List XP}{B:Int}(hB:0≤B)(hB2:B<2147483647)(hr:List.Pairwise (fun a b:XP=>a.id<b.id) l)(hi:∀ p,p∈l→0≤p.id∧p.id<3∧0≤p.epoch∧p.epoch≤B∧epZ (aA p.log)≤B) :
  (l.length<2→bQ l=(0,0,14))∧(2≤l.length→∃(b:Nat) (ep:Int),bQ l=((b:Int),ep,0)∧b<l.length∧(∀ p,p∈l→aA p.log≤aA (l.getD b default).log∧p.epoch<ep)∧ep≤B+1):=by
 have hin:∀ k,k<l.length→l.getD k default∈l:=fun k hk=>aZ l k hk
 have herr:∀ i,i<l.length→gf l i=0:=fun i h=>by
  have ht:uQ l i=false:=by
   unfold uQ;rw[Vd];intro q hq;obtain⟨k,hk,rfl⟩:=Ta hq;rw[RH] at hk
   have:=SO.1 hr k i (by omega) h (by omega);rw[UN,Ru,Rv h];simp only[Option.getD_some,RB];omega
  have hb:iz (l.getD i default)=false:=by have:=hi _ (hin i h);unfold iz;simp only[UR,RT];omega
  unfold gf;rw[ht,hb];rfl
 have h0:=n9 herr l.length (RE _);obtain⟨b1,b2,b3,b4,b5⟩:=An l B hB (fun k hk=>by have:=hi _ (hin k hk);omega) l.length (RE _);refine⟨fun h=>?_,fun h=>⟨(cd l l.length).1,(cd l l.length).2+1,?_,by omega,fun p hp=>?_,by omega⟩⟩
 ·unfold bQ;rw[Rx h0,Rx h]
 ·unfold bQ;rw[Rx h0,Rw (by omega),Rw (by omega)]
 ·obtain⟨k,hk,rfl⟩:=Ta hp
  have e:l[k]=l.getD k default:=by rw[Ru,Rv hk];rfl
  rw[e];exact⟨b1 k hk,by have:=b2 k hk;omega⟩
def eU(L:List (List UInt8))(p:List UInt8):Nat:=L.countP fun q=>decide (dirP q=p)
structure PsOk (L:List (List UInt8)):Prop where
 rises:aE L
 root:[47]∈L
 len:L.length≤400
 good:∀ q,q∈L→br q=true
 up:∀ q,q∈L→q=[47]∨dirP q∈L
structure X0 (L:List (List UInt8)) (ss:List Int) (z C:Int) (n:XG):Prop where
 data:n.data.length≤256
 v:0≤n.stat.version∧n.stat.version≤2147483647
 cv:0≤n.stat.cversion∧n.stat.cversion≤C
 zs:0≤n.stat.czxid∧n.stat.czxid≤n.stat.mzxid∧n.stat.czxid≤n.stat.pzxid∧n.stat.mzxid≤z∧n.stat.pzxid≤z
 own:n.stat.owner≠0→n.stat.owner∈ss∧n.stat.kids=0
 root:n.path=[47]→n.stat.owner=0
 kids:n.stat.kids=eU L n.path
theorem G3(t:XI)(k:Nat):mH t k=dirP (nd t k).path:=rfl
theorem y7(t:XI)(p:List UInt8):∀ n,n≤t.nodes.length→kidsN t p n=eU ((ar t).take n) p
 |0,_=>rfl
 | n + 1,h=>by
   rw[jt,y7 t p n (by omega)];unfold eU;have e:(ar t).take (n+1)=(ar t).take n++[(nd t n).path]:=by rw[UK,←aR,Ru];rw[Rv (by rw[aK];omega)];rfl
   rw[e,UB,G3];congr 1
   by_cases e2:dirP (nd t n).path=p
   ·rw[Rx e2,U5 (by simpa using e2)];rfl
   ·rw[Rw e2,U6 (by simpa using e2)];rfl
theorem L8{q:List UInt8}(h:br q=true):¬ q < [47]:=by
 have h47:∃ r,q=47::r:=by
  unfold br at h;rw[SC,RK,RK,RB,RB,RB] at h;rcases h with h|h
  ·exact⟨[],h⟩
  ·rcases q with _|⟨a,r⟩
   ·simp at h
   ·have:=h.2.1.2
    rw[S3,S4] at this;injection this with this;exact⟨r,by rw[this]⟩
 obtain⟨r,rfl⟩:=h47;intro hl;rcases List.cons_lt_cons_iff.1 hl with h|h
 ·exact absurd h (by decide)
 ·exact absurd h.2 (List.not_lt_nil _)
theorem GW:br []=false:=by decide
theorem Ku{ns:List XG}{n:XG}(h:n∈ns):n.path∈pathsN ns:=TZ h
theorem mK{t:XI}{k:Nat}(h:k<t.nodes.length):nd t k∈t.nodes:=aZ t.nodes k h
theorem yv{t:XI}(h:aS t=true):PsOk (ar t)∧∀ n,n∈t.nodes→X0 (ar t) t.sessions t.zxid 2147483647 n:=by
 obtain⟨⟨a1,a2,a3,a4,a5⟩,b,c,d⟩:=bi.1 h;have hr:=aF h;refine⟨⟨hr,?_,by rw[aK];exact a2,fun q hq=>?_,fun q hq=>?_⟩,fun n hn=>?_⟩
 ·rw[←a3];exact TZ (mK (by omega))
 ·obtain⟨n,hn,rfl⟩:=SJ.1 hq
  obtain⟨k,hk,rfl⟩:=(aM t.nodes default n).1 hn;exact(c k hk).1
 ·obtain⟨n,hn,rfl⟩:=SJ.1 hq
  obtain⟨k,hk,rfl⟩:=(aM t.nodes default n).1 hn;rcases(d k hk).2.2.1 with e|e
  ·subst e;exact .inl a3
  ·exact .inr e
 ·obtain⟨k,hk,rfl⟩:=(aM t.nodes default n).1 hn
  obtain⟨d1,d2,d3,d4⟩:=d k hk;obtain⟨s1,s2,s3,s4,s5,s6,s7,s8,s9⟩:=d1;refine⟨(c k hk).2.1,⟨s1,s2⟩,⟨s3,s4⟩,⟨s5,s6,s7,s8,s9⟩,d2,fun e=>?_,?_⟩
  ·by_cases e0:k=0
   ·subst e0;exact a4
   ·exfalso
    have:=aV hr (i:=0) (j:=k) (by omega) (by rw[aK];exact hk);rw[aR,aR,a3] at this
    change(nd t k).path=[47] at e
    rw[e] at this;exact Sk _ this
  ·show(nd t k).stat.kids=_
   rw[d4,y7 t _ _ (RE _),Rz (by rw[aK];exact RE _)];rfl
theorem kA{t:XI}(hz:bd t.zxid)(hs:∀ k,k<t.sessions.length→eH t.sessions k)(hp:PsOk (ar t))(hn:∀ n,n∈t.nodes→X0 (ar t) t.sessions t.zxid 2147483647 n):aS t=true:=by
 have hl:=hp.len;rw[aK] at hl;have hpos:1≤t.nodes.length:=by have:=List.length_pos_of_mem hp.root;rw[aK] at this;omega
 have hq:∀ k,k<t.nodes.length→(nd t k).path∈ar t:=fun k hk=>TZ (mK hk)
 have h0:(nd t 0).path=[47]:=by
  obtain⟨k,hk,e⟩:=(aM (ar t) [] [47]).1 hp.root
  by_cases e0:k=0
  ·subst e0;rw[←aR];exact e
  ·exfalso
   have:=aV hp.rises (i:=0) (j:=k) (by omega) hk;rw[e,aR] at this;exact L8 (hp.good _ (hq 0 (by omega))) this
 refine bi.2 ⟨⟨hpos,hl,h0,(hn _ (mK (by omega))).root h0,hz⟩,hs,fun k hk=>⟨hp.good _ (hq k hk),(hn _ (mK hk)).data,fun hk0=>?_⟩,fun k hk=>?_⟩
 ·have:=hp.rises (k-1) (by rw[aK];omega)
  rwa[aR,aR,Nat.sub_add_cancel hk0] at this
 ·have h:=hn _ (mK hk)
  obtain⟨z1,z2,z3,z4,z5⟩:=h.zs;refine⟨⟨h.v.1,h.v.2,h.cv.1,h.cv.2,z1,z2,z3,z4,z5⟩,h.own,?_,?_⟩
  ·rcases hp.up _ (hq k hk) with e|e
   ·left
    apply R4;intro e0
    have:=aV hp.rises (i:=0) (j:=k) (by omega) (by rw[aK];exact hk);rw[aR,aR,h0,e] at this;exact Sk _ this
   ·exact .inr e
  ·rw[h.kids,y7 t _ _ (RE _),Rz (by rw[aK];exact RE _)]
theorem Cb{L:List (List UInt8)}{i:Nat}(hi:i<L.length)(q:List UInt8):eU (L.eraseIdx i) q+(if dirP (L.getD i [])=q then 1 else 0)=eU L q:=by
 have e:L=L.take i++L.getD i []::L.drop (i+1):=by rw[Ru,Rv hi];simp
 unfold eU
 conv=>rhs;rw[e]
 rw[eQ,UB,UB]
 by_cases h:dirP (L.getD i [])=q
 ·rw[Rx h,U5 (by simpa using h)];omega
 ·rw[Rw h,U6 (by simpa using h)];omega
theorem FN{L:List (List UInt8)}{i:Nat}(hi:i≤L.length)(p q:List UInt8):eU (L.insertIdx i p) q=eU L q+(if dirP p=q then 1 else 0):=by
 unfold eU
 conv=>rhs;rw[←SA i L]
 rw[cT _ _ _ hi,UB,UB]
 by_cases h:dirP p=q
 ·rw[Rx h,U5 (by simpa using h)];omega
 ·rw[Rw h,U6 (by simpa using h)];omega
theorem vD(L:List (List UInt8))(q:List UInt8):eU L q≤L.length:=List.countP_le_length
theorem xF{L:List (List UInt8)}{p:List UInt8}(h:p∈L):0<eU L (dirP p):=WD.2 ⟨p,h,by simp⟩
theorem f0(ns:List XG)(i:Nat):(pathsN ns).getD i []=(ns.getD i default).path:=cV XG.path ns i default
theorem uL{ns:List XG}(hr:aE (pathsN ns)){i:Nat}{n m:XG}(hi:i<ns.length)(h:m∈ns.set i n):m=n∨(m∈ns∧m.path≠(ns.getD i default).path):=by
 obtain⟨j,hj,rfl⟩:=Ta h;rw[RQ] at hj;rw[V6];split
 ·exact .inl rfl
 ·rename_i e
  refine .inr ⟨So _,fun e2=>?_⟩;have ej:ns[j].path=(pathsN ns).getD j []:=by rw[f0,Ru,Rv hj];rfl
  rw[ej,←f0] at e2;have hl:=ao ns;rcases Tz e with h1|h1
  ·have:=aV hr h1 (by omega);rw[e2] at this;exact Sk _ this
  ·have:=aV hr h1 (by omega);rw[e2] at this;exact Sk _ this
theorem Db{ns:List XG}(hr:aE (pathsN ns)){i:Nat}{m:XG}(hi:i<ns.length)(h:m∈ns.eraseIdx i):m∈ns∧m.path≠(ns.getD i default).path:=by
 refine⟨Tx h,fun e2=>?_⟩;rw[Vr] at h;obtain⟨j,hj,hne,e⟩:=h;have ej:m.path=(pathsN ns).getD j []:=by rw[f0,Ru,Rv hj,←e];rfl
 rw[ej,←f0] at e2;have hl:=ao ns;rcases Tz hne with h1|h1
 ·have:=aV hr h1 (by omega);rw[e2] at this;exact Sk _ this
 ·have:=aV hr h1 (by omega);rw[e2] at this;exact Sk _ this
theorem Bq{L:List (List UInt8)}{p:List UInt8}(hr:aE L)(h:p∈L){q:List UInt8}:q∈L.eraseIdx (place L p)↔q∈L∧q≠p:=by
 have hf:=ag hr h;constructor
 ·intro hq
  refine⟨Tx hq,fun e=>?_⟩;subst e;rw[Vr] at hq;obtain⟨j,hj,hne,e⟩:=hq;have ej:L.getD j []=q:=by rw[Ru,Rv hj];exact e
  have hpl:=hf.1;rcases Tz hne with h1|h1
  ·have:=aV hr h1 (by omega);rw[hf.2,ej] at this;exact Sk _ this
  ·have:=aV hr h1 (by omega);rw[hf.2,ej] at this;exact Sk _ this
 ·intro hq
  exact gT hq.1 (by rw[hf.2];exact fun e=>hq.2 e.symm)
theorem gS{z:Int}(h0:-9223372036854775808≤z)(h1:z<9223372036854775808):IntKind.i64.wrap z=z:=by rw[Ur];omega
theorem JT:dirP [47]=[]:=by unfold dirP;rw[kX]
theorem HU{ns:List XG}{ss:List Int}{z C:Int}(hp:PsOk (pathsN ns))(hn:∀ n,n∈ns→X0 (pathsN ns) ss z C n){p:List UInt8}(hm:p∈pathsN ns)(h47:p≠[47])(hk:eU (pathsN ns) p=0){z':Int}(hz:z≤z')(hC:C<4294967296) :
  pathsN (fx ns p z')=(pathsN ns).eraseIdx (place (pathsN ns) p)∧PsOk (pathsN (fx ns p z'))∧∀ n,n∈fx ns p z'→X0 (pathsN (fx ns p z')) ss z' (C+1) n∧∃ m,m∈ns∧m.path=n.path∧m.stat.owner=n.stat.owner:=by
 have hr:=hp.rises;have hf:=ag hr hm;have hi:place (pathsN ns) p<ns.length:=by have:=hf.1;rwa[ao] at this
 have e1:pathsN (fx ns p z')=(pathsN ns).eraseIdx (place (pathsN ns) p):=by unfold fx;rw[ov,ch]
 have hmem:=fun q=>Bq hr hm (q:=q)
 have hdm:dirP p∈pathsN ns:=(hp.up p hm).resolve_left h47;have hdn:dirP p≠p:=Cy (hp.good p hm) h47;have hdm2:dirP p∈(pathsN ns).eraseIdx (place (pathsN ns) p):=(hmem _).2 ⟨hdm,hdn⟩;have hr2:=gj hr (place (pathsN ns) p);have hno:∀ q,q∈pathsN ns→dirP q≠p:=fun q hq e=>by have:=xF hq;rw[e] at this;omega
 have hct:∀ q,eU ((pathsN ns).eraseIdx (place (pathsN ns) p)) q+(if dirP p=q then 1 else 0)=eU (pathsN ns) q:=fun q=>by have:=Cb hf.1 q;rwa[hf.2] at this
 refine⟨e1,?_,?_⟩
 ·rw[e1]
  refine⟨hr2,(hmem _).2 ⟨hp.root,fun e=>h47 e.symm⟩,?_,fun q hq=>hp.good q ((hmem q).1 hq).1,fun q hq=>?_⟩
  ·have:=hp.len;rw[cR _ _ hf.1];omega
  ·have hq1:=((hmem q).1 hq).1
   exact(hp.up q hq1).imp id fun h=>(hmem _).2 ⟨h,hno q hq1⟩
 ·intro n hnm
  rw[e1];unfold fx kD at hnm;rw[Rx (by rw[ch];exact hdm2),ch] at hnm;have hf2:=ag hr2 hdm2;have hlen:(ns.eraseIdx (place (pathsN ns) p)).length=((pathsN ns).eraseIdx (place (pathsN ns) p)).length:=by rw[←ch,ao]
  have hi2:place ((pathsN ns).eraseIdx (place (pathsN ns) p)) (dirP p)<(ns.eraseIdx (place (pathsN ns) p)).length:=by rw[hlen];exact hf2.1
  have hpd:((ns.eraseIdx (place (pathsN ns) p)).getD (place ((pathsN ns).eraseIdx (place (pathsN ns) p)) (dirP p)) default).path=dirP p:=by rw[←f0,ch];exact hf2.2
  have hd0:=aZ (ns.eraseIdx (place (pathsN ns) p)) _ hi2;rcases uL (by rw[ch];exact hr2) hi2 hnm with e|⟨h1,h2⟩
  ·generalize (ns.eraseIdx (place (pathsN ns) p)).getD (place ((pathsN ns).eraseIdx (place (pathsN ns) p)) (dirP p)) default=d at hpd hd0 e
   have hdn2:=Tx hd0;have ho:=hn d hdn2;have hpos:=xF hm;have hle:=vD (pathsN ns) (dirP p);have hl4:=hp.len;have hkd:=ho.kids;rw[hpd] at hkd;have how:d.stat.owner=0:=by apply R4;intro h;have:=(ho.own h).2;omega
   have hc:=hct (dirP p);rw[Rx rfl] at hc;subst e;have hcv:=ho.cv;have hzs:=ho.zs;refine⟨⟨ho.data,ho.v,⟨?_,?_⟩,?_,fun h=>absurd how h,fun h=>how,?_⟩,d,hdn2,rfl,rfl⟩
   ·show 0≤IntKind.i64.wrap (d.stat.cversion+1)
    rw[gS (by omega) (by omega)];omega
   ·show IntKind.i64.wrap (d.stat.cversion+1)≤C+1
    rw[gS (by omega) (by omega)];omega
   ·show 0≤d.stat.czxid∧d.stat.czxid≤d.stat.mzxid∧d.stat.czxid≤z'∧d.stat.mzxid≤z'∧z'≤z'
    omega
   ·show IntKind.i64.wrap (d.stat.kids+-1)=_
    rw[gS (by omega) (by omega)];show _=((eU _ d.path:Nat):Int);rw[hpd];omega
  ·obtain⟨h3,h4⟩:=Db hr hi h1
   rw[hpd] at h2;have ho:=hn n h3;have hc:=hct n.path;rw[Rw (fun e=>h2 e.symm)] at hc;have hcv:=ho.cv;have hzs:=ho.zs;exact⟨⟨ho.data,ho.v,by omega,by omega,ho.own,ho.root,by rw[ho.kids];omega⟩,n,h3,rfl,rfl⟩
theorem X0.more{L:List (List UInt8)}{ss ss':List Int}{z z' C:Int}{n:XG}(h:X0 L ss z C n)(hz:z≤z')(hs:∀ s,s∈ss→s∈ss'):X0 L ss' z' C n:=
 ⟨h.data,h.v,h.cv,by have:=h.zs;omega,fun h0=>⟨hs _ (h.own h0).1,(h.own h0).2⟩,h.root,h.kids⟩
theorem Pm{ns:List XG}{ss:List Int}{z C:Int}(hp:PsOk (pathsN ns))(hn:∀ n,n∈ns→X0 (pathsN ns) ss z C n){x:ATxn}(hm:¬ x.path∈pathsN ns)(hg:br x.path=true)(h47:x.path≠[47])(hd:dirP x.path∈pathsN ns)(hdata:x.data.length≤256)
  (hl:ns.length<400) (hown:∀ n,n∈ns→n.path=dirP x.path→n.stat.owner=0) (hxo:x.owner≠0→x.owner∈ss) (hz:z≤x.zxid) (hz0:0≤x.zxid) (hC:C<4294967296) (hC0:0≤C) :
  PsOk (pathsN (pP ns x))∧∀ n,n∈pP ns x→X0 (pathsN (pP ns x)) ss x.zxid (C+1) n:=by
 have hr:=hp.rises;have hpl:=fc (pathsN ns) x.path;have hpl2:place (pathsN ns) x.path≤ns.length:=by rwa[ao] at hpl
 have e1:pathsN (pP ns x)=(pathsN ns).insertIdx (place (pathsN ns) x.path) x.path:=by unfold pP;rw[ov,lK];rfl
 have hmem:=fun q=>yj (y:=q) (x:=x.path) hpl
 have hr2:=nL hr hm;have hdn:dirP x.path≠x.path:=Cy hg h47;have hct:∀ q,eU ((pathsN ns).insertIdx (place (pathsN ns) x.path) x.path) q=eU (pathsN ns) q+(if dirP x.path=q then 1 else 0):=fun q=>FN hpl x.path q
 have hd2:dirP x.path∈(pathsN ns).insertIdx (place (pathsN ns) x.path) x.path:=(hmem _).2 (.inr hd)
 have hkx:eU (pathsN ns) x.path=0:=by
  apply R4;intro h;obtain⟨q,hq,hq2⟩:=WD.1 (Nat.pos_of_ne_zero h);have hq2:dirP q=x.path:=by simpa using hq2
  rcases hp.up q hq with e|e
  ·rw[e,JT] at hq2
   rw[←hq2,GW] at hg;cases hg
  ·rw[hq2] at e;exact hm e
 refine⟨?_,?_⟩
 ·rw[e1]
  refine⟨hr2,(hmem _).2 (.inr hp.root),?_,fun q hq=>?_,fun q hq=>?_⟩
  ·rw[dB _ _ _ hpl,ao];omega
  ·rcases(hmem q).1 hq with e|e
   ·rw[e];exact hg
   ·exact hp.good q e
  ·rcases(hmem q).1 hq with e|e
   ·rw[e];exact .inr hd2
   ·exact(hp.up q e).imp id fun h=>(hmem _).2 (.inr h)
 ·intro n hnm
  rw[e1];unfold pP kD at hnm;have ep:pathsN (ns.insertIdx (place (pathsN ns) x.path) (mkN x))=(pathsN ns).insertIdx (place (pathsN ns) x.path) x.path:=by rw[lK];rfl
  rw[ep,Rx hd2] at hnm;have hf2:=ag hr2 hd2;have hi2:place ((pathsN ns).insertIdx (place (pathsN ns) x.path) x.path) (dirP x.path)<(ns.insertIdx (place (pathsN ns) x.path) (mkN x)).length:=by rw[←ao,ep];exact hf2.1
  have hpd:((ns.insertIdx (place (pathsN ns) x.path) (mkN x)).getD (place ((pathsN ns).insertIdx (place (pathsN ns) x.path) x.path) (dirP x.path)) default).path=dirP x.path:=by rw[←f0,ep];exact hf2.2
  have hd0:=aZ (ns.insertIdx (place (pathsN ns) x.path) (mkN x)) _ hi2;rcases uL (by rw[ep];exact hr2) hi2 hnm with e|⟨h1,h2⟩
  ·generalize (ns.insertIdx (place (pathsN ns) x.path) (mkN x)).getD (place ((pathsN ns).insertIdx (place (pathsN ns) x.path) x.path) (dirP x.path)) default=d at hpd hd0 e
   rcases(TM hpl2).1 hd0 with hdx|hdn2
   ·rw[hdx] at hpd;exact absurd hpd.symm hdn
   have ho:=hn d hdn2;have how:=hown d hdn2 hpd;have hle:=vD (pathsN ns) (dirP x.path);have hl4:=hp.len;have hkd:=ho.kids;rw[hpd] at hkd;have hc:=hct (dirP x.path);rw[Rx rfl] at hc;subst e;have hcv:=ho.cv;have hzs:=ho.zs;refine⟨ho.data,ho.v,⟨?_,?_⟩,?_,fun h=>absurd how h,fun h=>how,?_⟩
   ·show 0≤IntKind.i64.wrap (d.stat.cversion+1)
    rw[gS (by omega) (by omega)];omega
   ·show IntKind.i64.wrap (d.stat.cversion+1)≤C+1
    rw[gS (by omega) (by omega)];omega
   ·show 0≤d.stat.czxid∧d.stat.czxid≤d.stat.mzxid∧d.stat.czxid≤x.zxid∧d.stat.mzxid≤x.zxid∧x.zxid≤x.zxid
    omega
   ·show IntKind.i64.wrap (d.stat.kids+1)=((eU _ d.path:Nat):Int)
    rw[gS (by omega) (by omega),hpd];omega
  ·rw[hpd] at h2
   rcases(TM hpl2).1 h1 with e|h3
   ·subst e
    have hc:=hct x.path;rw[Rw hdn,hkx] at hc;refine⟨hdata,⟨Su _,by show(0:Int)≤2147483647;decide⟩,⟨Su _,by show 0≤C+1;omega⟩,?_,fun h=>⟨hxo h,rfl⟩,fun h=>absurd h h47,?_⟩
    ·show 0≤x.zxid∧x.zxid≤x.zxid∧x.zxid≤x.zxid∧x.zxid≤x.zxid∧x.zxid≤x.zxid
     omega
    ·show(0:Int)=((eU _ x.path:Nat):Int)
     rw[hc];rfl
   ·have ho:=hn n h3
    have hc:=hct n.path;rw[Rw (fun e=>h2 e.symm)] at hc;have hcv:=ho.cv;have hzs:=ho.zs;exact⟨ho.data,ho.v,by omega,by omega,ho.own,ho.root,by rw[ho.kids];omega⟩
theorem Pd{ns:List XG}{ss:List Int}{z C:Int}(hp:PsOk (pathsN ns))(hn:∀ n,n∈ns→X0 (pathsN ns) ss z C n){x:ATxn}(hm:x.path∈pathsN ns)(hdata:x.data.length≤256)(hv:0≤x.version∧x.version≤2147483647)(hz:z≤x.zxid) :
  PsOk (pathsN (setN ns x))∧∀ n,n∈setN ns x→X0 (pathsN (setN ns x)) ss x.zxid C n:=by
 have hf:=ag hp.rises hm;have hi:place (pathsN ns) x.path<ns.length:=by have:=hf.1;rwa[ao] at this
 have e1:pathsN (setN ns x)=pathsN ns:=by unfold setN;exact vG _ _ _ rfl
 refine⟨by rw[e1];exact hp,fun n hnm=>?_⟩;rw[e1];unfold setN at hnm;rcases uL hp.rises hi hnm with e|⟨h1,h2⟩
 ·have hd0:=aZ ns _ hi
  generalize ns.getD (place (pathsN ns) x.path) default=d at hd0 e;have ho:=hn d hd0;have hzs:=ho.zs;subst e;refine⟨hdata,hv,ho.cv,?_,ho.own,ho.root,ho.kids⟩;show 0≤d.stat.czxid∧d.stat.czxid≤x.zxid∧d.stat.czxid≤d.stat.pzxid∧x.zxid≤x.zxid∧d.stat.pzxid≤x.zxid;omega
 ·exact(hn n h1).more hz fun _ h=>h
theorem X0.cap{L:List (List UInt8)}{ss:List Int}{z C:Int}{n:XG}(h:X0 L ss z C n)(hb:dM n=false):X0 L ss z 2147483647 n:=by unfold dM at hb;rw[RT] at hb;exact⟨h.data,h.v,⟨h.cv.1,by omega⟩,h.zs,h.own,h.root,h.kids⟩
theorem Eg{l:List Int}:fy l↔l.Pairwise (fun a b=>a<b):=by
 have gd (j:Nat) (hj:j<l.length):l.getD j default=l[j]:=by rw[Ru,Rv hj];rfl
 constructor
 ·intro h
  refine SO.2 fun i j hi hj hij=>?_
  have:=fh h hij hj;rwa[gd i hi,gd j hj] at this
 ·intro h k hk
  rw[gd k (by omega),gd (k+1) hk];exact SO.1 h k (k+1) (by omega) hk (by omega)
theorem mu{l:List Int}:(∀ k,k<l.length→eH l k)↔fy l∧∀ s,s∈l→1≤s∧s≤2147483647:=by
 constructor
 ·intro h
  refine⟨oo h,fun s hs=>?_⟩;obtain⟨k,hk,rfl⟩:=(aM l default s).1 hs;exact⟨(h k hk).1,(h k hk).2.1⟩
 ·intro h k hk
  have:=h.2 _ (aZ l k hk);refine⟨this.1,this.2,fun h0=>?_⟩
  have:=h.1 (k-1) (by omega);rwa[Nat.sub_add_cancel h0] at this
theorem Kp{l:List Int}(h:∀ k,k<l.length→eH l k){s:Int}(hs:1≤s∧s≤2147483647)(hm:¬ s∈l):∀ k,k<(l.insertIdx (bf l s) s).length→eH (l.insertIdx (bf l s) s) k:=by
 obtain⟨h1,h2⟩:=mu.1 h;rw[←vz h1 hm];have hp:=Eg.1 h1;refine mu.2 ⟨Eg.2 ?_,fun q hq=>?_⟩
 ·refine List.pairwise_append.2 ⟨hp.filter _,VO.2 ⟨fun b hb=>?_,hp.filter _⟩,fun a ha b hb=>?_⟩
  ·exact Um (Tr.1 hb).2
  ·have h3:a<s:=Um (Tr.1 ha).2
   rcases RP.1 hb with e|e
   ·omega
   ·have h4:s<b:=Um (Tr.1 e).2
    omega
 ·rcases Sh.1 hq with e|e
  ·exact h2 q (Tr.1 e).1
  ·rcases RP.1 e with e|e
   ·rw[e];exact hs
   ·exact h2 q (Tr.1 e).1
theorem D5{l:List Int}(h:∀ k,k<l.length→eH l k){s:Int}(hm:s∈l):(∀ k,k<(l.eraseIdx (bf l s)).length→eH (l.eraseIdx (bf l s)) k)∧∀ q,q∈l→q≠s→q∈l.eraseIdx (bf l s):=by obtain⟨h1,h2⟩:=mu.1 h;rw[←n7 h1 hm];refine⟨mu.2 ⟨Eg.2 ((Eg.1 h1).filter _),fun q hq=>h2 q (Tr.1 hq).1⟩,fun q hq hne=>Tr.2 ⟨hq,by simpa using hne⟩⟩
theorem qP{t:XI}(hr:aE (ar t)){j k:Nat}(hj:j<t.nodes.length)(hk:k<t.nodes.length)(h:(nd t j).path=(nd t k).path):j=k:=by
 rw[←aR,←aR] at h;have hl:=aK t;rcases TC j k with h1|h1|h1
 ·have:=aV hr h1 (by omega);rw[h] at this;exact absurd this (Sk _)
 ·exact h1
 ·have:=aV hr h1 (by omega);rw[h] at this;exact absurd this (Sk _)
theorem wL{t:XI}(hg:aS t=true){s z:Int}(hs:s≠0)(hz:t.zxid≤z):∀ k,k≤t.nodes.length→
  PsOk (pathsN (aQ t s z k).1)∧(∀ n,n∈(aQ t s z k).1→X0 (pathsN (aQ t s z k).1) t.sessions z (2147483647+k) n∧∃ m,m∈t.nodes∧m.path=n.path∧m.stat.owner=n.stat.owner)∧
   ∀ j,j<t.nodes.length→(¬ (nd t j).path∈pathsN (aQ t s z k).1↔j<k∧(nd t j).stat.owner=s)
 | 0,_=>by
   obtain⟨h1,h2⟩:=yv hg;refine⟨h1,fun n hn=>⟨(h2 n hn).more hz fun _ h=>h,n,hn,rfl,rfl⟩,fun j hj=>⟨fun h=>absurd (TZ (mK hj)) h,fun h=>absurd h.1 (by omega)⟩⟩
 | k + 1,hk=>by
   obtain⟨h1,h2,h3⟩:=wL hg hs hz k (by omega);have hr:=aF hg;have hl4:=(cr hg).2.1
   by_cases e:(nd t k).stat.owner=s
   ·have ec:(aQ t s z (k+1)).1=fx (aQ t s z k).1 (nd t k).path z:=by
     rw[aQ];unfold nd at e;rw[Rx e];rfl
    have hm:(nd t k).path∈pathsN (aQ t s z k).1:=Tn.1 fun h=>absurd ((h3 k (by omega)).1 h).1 (by omega)
    obtain⟨m,hm1,hm2⟩:=SJ.1 hm;obtain⟨q1,m0,q2,q3,q4⟩:=h2 m hm1
    have howner:m.stat.owner=s:=by
     obtain⟨j,hj,rfl⟩:=(aM t.nodes default m0).1 q2
     change(nd t j).path=m.path at q3
     change(nd t j).stat.owner=m.stat.owner at q4
     rw[hm2] at q3
     have:=qP hr hj (by omega) q3;subst this;rw[←q4];exact e
    have h47:(nd t k).path≠[47]:=fun h=>by have:=q1.root (by rw[hm2];exact h);omega
    have hk0:eU (pathsN (aQ t s z k).1) (nd t k).path=0:=by have a:=(q1.own (by omega)).2;have b:=q1.kids;rw[hm2] at b;omega
    obtain⟨d1,d2,d3⟩:=HU h1 (fun n hn=>(h2 n hn).1) hm h47 hk0 (Su z) (by omega);rw[ec];refine⟨d2,fun n hn=>?_,fun j hj=>?_⟩
    ·obtain⟨b1,m2,b2,b3,b4⟩:=d3 n hn
     obtain⟨_,m3,c1,c2,c3⟩:=h2 m2 b2;refine⟨by rw[show(2147483647+((k+1:Nat):Int))=2147483647+(k:Int)+1 from by omega];exact b1,m3,c1,by rw[c2,b3],by rw[c3,b4]⟩
    ·rw[d1,Bq h1.rises hm]
     have h3j:=h3 j hj;constructor
     ·intro h
      by_cases ej:(nd t j).path=(nd t k).path
      ·have:=qP hr hj (by omega) ej
       subst this;exact⟨by omega,e⟩
      ·have:=h3j.1 fun hh=>h ⟨hh,ej⟩
       exact⟨by omega,this.2⟩
     ·intro h hh
      by_cases ej:j=k
      ·subst ej;exact hh.2 rfl
      ·exact h3j.2 ⟨by omega,h.2⟩ hh.1
   ·have ec:(aQ t s z (k+1)).1=(aQ t s z k).1:=by
     rw[aQ];unfold nd at e;rw[Rw e]
    rw[ec];refine⟨h1,fun n hn=>⟨?_,(h2 n hn).2⟩,fun j hj=>?_⟩
    ·have:=(h2 n hn).1
     exact⟨this.data,this.v,by have:=this.cv;omega,this.zs,this.own,this.root,this.kids⟩
    ·rw[h3 j hj]
     constructor
     ·intro h;exact⟨by omega,h.2⟩
     ·intro h
      refine⟨?_,h.2⟩
      have:j≠k:=fun ej=>e (by rw[←ej];exact h.2)
      omega
theorem tO{t:XI}{x:ATxn}(h:(ah t x).2.2=0):aS (ah t x).1=true:=by
 have h0:bv t x=0:=by apply R4;intro hw;rw[mh hw] at h;exact hw h
 have hb:(cG t x).1.nodes.any dM=false:=by apply R4;intro hb;rw[cU h0 (by simpa using hb)] at h;cases h
 rw[eA h0 hb];obtain⟨hg,hx,hz,w1,w2,w3,w4,w5⟩:=cp h0;obtain⟨g1,g2,g3,g4,g5,g6,g7⟩:=fU hx;obtain⟨p1,p2⟩:=yv hg;obtain⟨hhd,hss,_,_⟩:=bi.1 hg;have hl4:=hhd.2.1
 have hgz:bd x.zxid:=by
  have h9:lV x=true:=by apply R4;intro hn;rw[fX g2 hn] at hx;cases hx
  unfold lV at h9;rw[RK,RB] at h9;exact h9.1
 have hcap:∀ n,n∈(cG t x).1.nodes→dM n=false:=fun n hn=>by have:=Vd.1 hb n hn;simpa using this
 unfold cG at hcap ⊢
 by_cases o1:x.op=1
 ·rw[Rx o1] at hcap ⊢
  have hpl:bf t.sessions x.session≤t.sessions.length:=Ts;exact kA hgz (Kp hss g3 (w1 o1)) p1 fun n hn=>(p2 n hn).more (UC hz) fun s hs=>(TM hpl).2 (.inr hs)
 have hm:=w2 o1;rw[Rw o1] at hcap ⊢
 by_cases o2:x.op=2
 ·rw[Rx o2] at hcap ⊢
  obtain⟨c1,c2,c3⟩:=wL hg (s:=x.session) (z:=x.zxid) (by omega) (UC hz) t.nodes.length (RE _);obtain⟨e1,e2⟩:=D5 hss hm;refine kA hgz e1 c1 fun n hn=>?_
  obtain⟨b1,m,b2,b3,b4⟩:=c2 n hn
  have hne:n.stat.owner≠x.session:=fun e=>by
   obtain⟨j,hj,rfl⟩:=(aM t.nodes default m).1 b2
   have:=(c3 j hj).2 ⟨hj,by change(nd t j).stat.owner=_ at b4;rw[b4];exact e⟩
   change(nd t j).path=_ at b3
   rw[b3] at this;exact this (Ku hn)
  have b5:=b1.cap (hcap n hn);exact⟨b5.data,b5.v,b5.cv,b5.zs,fun h=>⟨e2 _ (b5.own h).1 hne,(b5.own h).2⟩,b5.root,b5.kids⟩
 rw[Rw o2] at hcap ⊢
 by_cases o3:x.op=3
 ·rw[Rx o3] at hcap ⊢
  obtain⟨q1,q2⟩:=kU hx (by omega);obtain⟨r1,r2,r3⟩:=w3 o3;have hlk:lH t x (aw t x.path).2=0:=by unfold bv at h0;rw[Rw (by rw[hg];decide),Rw (fun h=>h hx),Rw (by omega),Rw o1,Rw (fun h=>h hm),Rx o3] at h0;exact h0
  unfold lH at hlk;rw[lw r1,Rw (by decide)] at hlk;have hdz:(aw t (splitP x.path).1.1).2=0:=fg.2 r2;rw[Rw (fun h=>h hdz)] at hlk;have hpo:(aw t (splitP x.path).1.1).1.stat.owner=0:=by apply R4;intro hn;rw[Rx hn] at hlk;cases hlk
  rw[Rw (fun h=>h hpo)] at hlk;have hxo:¬ (¬ x.owner=0∧¬ x.owner=x.session):=fun hn=>by rw[Rx hn] at hlk;cases hlk
  have hown:∀ n,n∈t.nodes→n.path=dirP x.path→n.stat.owner=0:=fun n hn he=>by
   obtain⟨j,hj,rfl⟩:=(aM t.nodes default n).1 hn
   change(nd t j).path=_ at he
   change(nd t j).stat.owner=0
   have hf:=ag (aF hg) r2;unfold aw at hpo;rw[Rx (show(splitP x.path).1.1∈ar t from r2)] at hpo;have hpl:=hf.1;rw[aK] at hpl
   have:j=place (ar t) (splitP x.path).1.1:=qP (aF hg) hj hpl (by rw[he,←aR];exact hf.2.symm);rw[this];exact hpo
  obtain⟨a1,a2⟩:=Pm p1 p2 r1 q1 q2 r2 g7 r3 hown (fun h=>by
   have:x.owner=x.session:=R4 fun hn=>hxo ⟨h,hn⟩
   rw[this];exact hm) (UC hz) g1.1 (by decide) (by decide)
  exact kA hgz hss a1 fun n hn=>(a2 n hn).cap (hcap n hn)
 rw[Rw o3] at hcap ⊢
 by_cases o4:x.op=4
 ·rw[Rx o4] at hcap ⊢
  obtain⟨q1,q2⟩:=kU hx (by omega);obtain⟨r1,r2⟩:=w4 o4;have hf:=ag (aF hg) r1;have hpl:=hf.1;rw[aK] at hpl
  have hk0:eU (pathsN t.nodes) x.path=0:=by
   have:=(p2 _ (mK hpl)).kids;unfold aw at r2;rw[Rx r1] at r2;simp only at r2;have hpe:=hf.2;rw[aR] at hpe;rw[hpe] at this
   change _=((eU (pathsN t.nodes) x.path:Nat):Int) at this
   omega
  obtain⟨d1,d2,d3⟩:=HU p1 p2 r1 q2 hk0 (UC hz) (by decide);exact kA hgz hss d2 fun n hn=>(d3 n hn).1.cap (hcap n hn)
 rw[Rw o4] at hcap ⊢;obtain⟨a1,a2⟩:=Pd p1 p2 (w5 (by omega)) g7 g4 (UC hz);exact kA hgz hss a1 a2
theorem Iy:ab Tryz.prog [] 107 [] (ret (I 2)):=by
 refine zJ Tryz.func107 Tryz.ntmps107 Tryz.results107 ?_;simp only[go_sem];refine zW qw zn X5 (z1 ?_)
 all_goals try(refine KD ?_ rfl ?_ ?_ ?_ ?_;(focus(first|exact .inl rfl|exact .inr rfl));(focus(simp only[go_sem,SH];first|done|omega));(focus(simp only[go_sem,SH];done));(focus(simp only[go_sem,SH];done));simp only[go_sem,SH,I,B,S,AV.d.injEq,DV.int.injEq,DV.bool.injEq,DV.str.injEq,DV.sl.injEq,AV.tup.injEq,AV.agg.injEq,R8,Wx,SH,S6])
theorem MX(a b:XP)(h:a.log.length*72≤140737488351232)(h2:b.log.length*72≤140737488351232):ab Tryz.prog [] 182 [a.av,b.av] (ret (B (lh a b))):=by
 refine zJ Tryz.func182 Tryz.ntmps182 Tryz.results182 ?_;simp only[go_sem];refine zW qw (z2 (mw _ h) (mw _ h2)) X5 (z1 ?_)
 all_goals exact zEe @lh.eq_1
theorem Aj(l:List ATxn)(h:∀ x,x∈l→x.wf):okI (aA l):=by
 unfold aA;split
 ·exact⟨by decide,by decide⟩
 ·rename_i e;exact(h _ (aZ l _ (by have:=TJ.2 e;omega))).1
theorem D7(p:XP)(h:p.log.length*72≤140737488351232):ab Tryz.prog [] 104 [p.av] (ret (.tup [I (cD p).1,I (cD p).2])):=by
 refine zJ Tryz.func104 Tryz.ntmps104 Tryz.results104 ?_;simp only[go_sem]
 (refine zW qw (z4 (mw _ h) (ho fun z=>sU z) (DJ _ _) (ho fun z=>O3 z)) @two.eq_1 (z3 ?_ ?_ ?_)<;>(repeat with_reducible intro hc))
 all_goals(unfold cD)
 ·rw[Rx (by assumption),Rx hc];exact zEe X5
 ·rw[Rx (by assumption),Rw (fun h=>h hc)];exact zEe X5
 ·rw[Rw (by omega)];exact zEe X5
theorem OG(e:Int):okI (mkZ e 0).1:=by
 unfold mkZ;split
 ·exact⟨by decide,by decide⟩
 ·rename_i h;unfold lZ at h;exact⟨by simp only;omega,by simp only;omega⟩
theorem tr(p:XP)(h:p.log.length*72≤140737488351232)(h2:∀ x,x∈p.log→x.wf):ab Tryz.prog [] 101 [p.av] (ret (.tup [I (cD p).1,I (cD p).2])):=by
 refine zJ Tryz.func101 Tryz.ntmps101 Tryz.results101 ?_;simp only[go_sem];have w1:=Aj _ h2
 (refine zW qw (zc (ref_last_c _ h) (z4 (ref_epoch_c _ w1) (k9 _ _) (vq _ w1) (vq _ (OG _)))) @two.eq_1 (z3 ?_ ?_ ?_)<;>(repeat with_reducible intro hc))
 all_goals(unfold cD)
 ·rw[Rw (by omega)];exact zEe X5
 ·rw[Rx (by assumption),Rx hc];exact zEe X5
 ·rw[Rx (by assumption),Rw (fun h=>h hc)];exact zEe X5
def jS(p:Int×Int×Int):AV:=.tup [I p.1,I p.2.1,I p.2.2]
theorem jY {l:List XP} {n:Nat} (h:bx l n≠0):∀ m,n≤m→bx l m=bx l n
 |0,hm=>by have:n=0:=by omega
           rw[this]
 | m + 1,hm=>by
   by_cases e:n=m+1
   ·rw[e]
   ·have:=jY h m (by omega)
    simp only[bx];rw[this,Rw h]
theorem nP{l:List XP}{i:Nat}(hi:i<l.length)(h0:bx l i=0)(h:gf l i≠0):bQ l=(0,0,gf l i):=by
 have h1:bx l (i+1)=gf l i:=by simp only[bx];rw[Rx h0]
 have h2:=jY (n:=i+1) (by rw[h1];exact h) l.length hi;unfold bQ;rw[h2,h1,Rw h]
theorem xa{l:List XP}{i k:Nat}(hk:k<i)(hi:i<l.length)(h:(l.getD k default).id=(l.getD i default).id):uQ l i=true:=by unfold uQ;rw[TN];refine⟨l.getD k default,?_,by simpa using h⟩;rw[SF];refine⟨k,by omega,?_⟩;rw[Ru,Rv (by omega)];rfl
theorem pQ{l:List XP}{i:Nat}(hi:i<l.length)(h:∀ k,k<i→¬ (l.getD k default).id=(l.getD i default).id):uQ l i=false:=by
 unfold uQ;rw[Vd];intro q hq;rw[SF] at hq;obtain⟨k,hk,rfl⟩:=hq
 have:=h k (by omega);rw[Ru,Rv (by omega)] at this;simpa using this
theorem JM{l:List XP}{n:Nat}(h:bx l n=0):∀ i,i<n→iz (l.getD i default)=false:=by
 induction n with
 |zero=>intro i hi;omega
 | succ n ih=>
   simp only[bx] at h;split at h
   ·rename_i h0
    intro i hi
    by_cases e:i=n
    ·subst e
     unfold gf at h;split at h
     ·simp at h
     ·split at h
      ·simp at h
      ·rename_i hb;simpa using hb
    ·exact ih h0 i (by omega)
   ·contradiction
theorem Cx(z:Int):0≤epZ z∧epZ z≤2147483647:=by
 unfold epZ;split
 ·rename_i h;unfold bd at h;omega
 ·omega
theorem nV{l:List XP}{n m:Nat}(h:bx l m=0)(hn:n≤m):bx l n=0:=by
 by_cases e:bx l n=0
 ·exact e
 ·rw[jY e m hn] at h;exact absurd h e
theorem pS{l:List XP}:∀(n:Nat),bx l n=0→0≤(cd l n).2∧(cd l n).2≤2147483647∧((cd l n).1=0∨(cd l n).1<n)
 |0,_=>⟨by simp[cd],by simp[cd],.inl rfl⟩
 | n + 1,h=>by
   have hb:=JM h n (by omega)
   have h0:bx l n=0:=by
    simp only[bx] at h;split at h
    ·assumption
    ·contradiction
   obtain⟨a,b,c⟩:=pS n h0
   have:=Cx (aA (l.getD n default).log);simp only[iz,UR,RT] at hb;simp only[cd,mx];refine⟨by split<;>split<;>omega,by split<;>split<;>omega,?_⟩;split
   ·right;omega
   ·omega
theorem Nu(l:List XP)(h:l.length≤140737488351232)(h2:∀ p,p∈l→p.log.length*72≤140737488351232):ab Tryz.prog [] 113 [.d (.sl 4 (l.map XP.row))] (ret (jS (bQ l))):=by
 refine zJ Tryz.func113 Tryz.ntmps113 Tryz.results113 ?_;simp only[go_sem];refine zW qw zn X5 (z1 ?_);refine WQ (ι:=Nat) (fun i=>i≤l.length∧bx l i=0) (fun i=>l.length-i) [0,12,13] (fun i=>[(14,I i)]) (fun i=>[]) 0 ?_ ?_ ?_
 ·exact⟨by omega,rfl⟩
 ·simp only[go_sem];exact zSm X5
 intro i ⟨hi,h0⟩;simp only[go_sem]
 (refine zW qw zn @bJ (z2 ?_ ?_)<;>(try with_reducible intro(K:ASt→Prop) hK)<;>(repeat with_reducible intro hc))
 ·have hil:=hc
  refine WW (ι:=Nat) (fun k=>k≤i∧∀ j,j<k→¬ (l.getD j default).id=(l.getD i default).id) (fun k=>i-k) [0,6,12,13,14,19] (fun k=>[(20,I k)]) 0 ?_ (by simp(disch:=omega) only[go_sem,aa,SH]) ?_
  ·exact⟨by omega,by omega⟩
  intro k ⟨hk,hk2⟩;simp only[go_sem]
  (refine zW qw zn @bJ (z4 ?_ ?_ ?_ ?_)<;>(repeat with_reducible intro hc))
  ·have e1:gf l i=8:=by unfold gf;rw[Rx (xa (by omega) hil hc)]
   rw[nP hil h0 (by rw[e1];decide),e1];exact zEe @jS.eq_1
  ·refine⟨k+1,⟨by omega,fun j hj=>?_⟩,by omega,?_⟩
   ·by_cases e:j=k
    ·subst e;exact hc
    ·exact hk2 j (by omega)
   exact zSm X5
  ·have e:k=i:=by omega
   subst e;have e1:gf l k=3:=by unfold gf;rw[Rw (by rw[pQ hil hk2];simp),Rx];simp only[iz,SC,RB];exact hc
   rw[nP hil h0 (by rw[e1];decide),e1];exact zEe @jS.eq_1
  ·have e:k=i:=by omega
   subst e;have e1:gf l k=0:=by unfold gf;rw[Rw (by rw[pQ hil hk2];simp),Rw];simp only[iz,SC,RB];omega
   refine⟨k+1,⟨by omega,by simp only[bx];rw[Rx h0];exact e1⟩,by omega,?_⟩;exact zFr [] X5
 have e:i=l.length:=by omega
 subst e
 (refine zW qw (z1 Iy) X5 (z2 ?_ ?_)<;>(repeat with_reducible intro hc))
 ·unfold bQ
  rw[Rx h0,Rx (by omega)];exact zEe @jS.eq_1
 ·have hl2:=hc
  refine WQ (ι:=Nat) (fun n=>n≤l.length) (fun n=>l.length-n) [0,55,56] (fun n=>[(8,I (cd l n).1),(9,I (cd l n).2),(57,I n)]) (fun n=>[]) 0 ?_ ?_ ?_
  ·omega
  ·simp only[go_sem];(refine zV [] rfl rfl rfl rfl ?_ ?_<;>simp(disch:=omega) only[go_sem,aa,Si,cd]<;>(try rfl))
  intro n hn;obtain⟨b1,b2,b3⟩:=pS n (nV h0 hn);have hb:(cd l n).1<l.length:=by omega
  have hlg:=h2 _ (aZ l _ hb);simp only[go_sem]
  (refine zW qw zn @bJ (z3 ?_ ?_ ?_)<;>(try with_reducible intro(K:ASt→Prop) hK)<;>(repeat with_reducible intro hc))
  ·have hlg2:=h2 _ (aZ l _ hc)
   have:=Cx (aA (l.getD n default).log)
   (refine zW qw (z3 (MX _ _ hlg2 hlg) (mw _ hlg2) (ho fun z=>sU z)) X5 (z2 ?_ ?_)<;>(repeat with_reducible intro hc))
   ·refine⟨n+1,by omega,by omega,?_⟩
    (refine zV [] rfl rfl rfl rfl ?_ ?_<;>simp(disch:=omega) only[go_sem,aa,Si,cd,mx,hc]<;>(try rfl))
   ·refine⟨n+1,by omega,by omega,?_⟩
    (refine zV [] rfl rfl rfl rfl ?_ ?_<;>simp(disch:=omega) only[go_sem,aa,Si,cd,mx,hc]<;>(try rfl))
  ·have e:n=l.length:=by omega
   subst e;unfold bQ;rw[Rx h0,Rw (by omega),Rx hc];exact zEe @jS.eq_1
  ·have e:n=l.length:=by omega
   subst e;unfold bQ;rw[Rx h0,Rw (by omega),Rw (by omega)];exact zEe @jS.eq_1
theorem BU(l:List XP)(h:l.length≤140737488351232)(h2:∀ p,p∈l→p.log.length*72≤140737488351232)(hw:∀ p,p∈l→∀ x,x∈p.log→x.wf):ab Tryz.prog [] 92 [.d (.sl 4 (l.map XP.row))] (ret (jS (bQ l))):=by
 refine zJ Tryz.func92 Tryz.ntmps92 Tryz.results92 ?_;simp only[go_sem];refine zW qw zn X5 (z1 ?_);refine WQ (ι:=Nat) (fun i=>i≤l.length∧bx l i=0) (fun i=>l.length-i) [0,14,15] (fun i=>[(16,I i)]) (fun i=>[]) 0 ?_ ?_ ?_
 ·exact⟨by omega,rfl⟩
 ·simp only[go_sem];exact zSm X5
 intro i ⟨hi,h0⟩;simp only[go_sem]
 (refine zW qw zn @bJ (z3 ?_ ?_ ?_)<;>(repeat with_reducible intro hc))
 ·have hil:=hc
  refine WW (ι:=Nat) (fun k=>k≤i∧∀ j,j<k→¬ (l.getD j default).id=(l.getD i default).id) (fun k=>i-k) [0,5,6,14,15,16] (fun k=>[(7,I k)]) 0 ?_ (by simp(disch:=omega) only[go_sem,aa,SH]) ?_
  ·exact⟨by omega,by omega⟩
  intro k ⟨hk,hk2⟩;simp only[go_sem]
  (refine zW qw zn @bJ (z4 ?_ ?_ ?_ ?_)<;>(repeat with_reducible intro hc))
  ·have e1:gf l i=8:=by unfold gf;rw[Rx (xa (by omega) hil hc)]
   rw[nP hil h0 (by rw[e1];decide),e1];exact zEe @jS.eq_1
  ·refine⟨k+1,⟨by omega,fun j hj=>?_⟩,by omega,?_⟩
   ·by_cases e:j=k
    ·subst e;exact hc
    ·exact hk2 j (by omega)
   exact zSm X5
  ·have e:k=i:=by omega
   subst e;have e1:gf l k=3:=by unfold gf;rw[Rw (by rw[pQ hil hk2];simp),Rx];simp only[iz,SC,RB];omega
   rw[nP hil h0 (by rw[e1];decide),e1];exact zEe @jS.eq_1
  ·have e:k=i:=by omega
   subst e;have e1:gf l k=0:=by unfold gf;rw[Rw (by rw[pQ hil hk2];simp),Rw];simp only[iz,SC,RB];omega
   refine⟨k+1,⟨by omega,by simp only[bx];rw[Rx h0];exact e1⟩,by omega,?_⟩;exact zFr [] X5
 all_goals obtain rfl:i=l.length:=by omega
 ·unfold bQ
  rw[Rx h0,Rx (by omega)];exact zEe @jS.eq_1
 ·have hl2:=hc
  refine WQ (ι:=Nat) (fun n=>n≤l.length) (fun n=>l.length-n) [0,56,57] (fun n=>[(8,I (cd l n).1),(9,I (cd l n).2),(58,I n)]) (fun n=>[]) 0 ?_ ?_ ?_
  ·omega
  ·simp only[go_sem];(refine zV [] rfl rfl rfl rfl ?_ ?_<;>simp(disch:=omega) only[go_sem,aa,Si,cd]<;>(try rfl))
  intro n hn;obtain⟨b1,b2,b3⟩:=pS n (nV h0 hn);have hb:(cd l n).1<l.length:=by omega
  have hlg:=h2 _ (aZ l _ hb);simp only[go_sem]
  (refine zW qw zn @bJ (z3 ?_ ?_ ?_)<;>(try with_reducible intro(K:ASt→Prop) hK)<;>(repeat with_reducible intro hc))
  ·have hlg2:=h2 _ (aZ l _ hc)
   have:=Cx (aA (l.getD n default).log);have w1:=Aj _ (hw _ (aZ l _ hc));have hbb:(0:Int)≤((cd l n).1:Int):=by omega
   (repeat' first
|(with_reducible refine AR.f ?_)
|refine bI (by decide) ?_
|(with_reducible refine AWP.cond rfl ?_ ?_<;>intro hc<;>(try simp only[hcs,RN,RY,RZ] at hc))
|((first|((first|(with_reducible first|refine zR ?_|refine zQ ?_|refine zD ?_|refine zE ?_|refine zG ?_));intro K hK)|((first|refine acallH_sc (ref_last_c _ hlg2) rfl rfl ?_ ?_ ?_|refine acallQ_sc (ref_last_c _ hlg2) rfl rfl ?_ ?_ ?_|refine acallH_sc (ref_last_c _ hlg) rfl rfl ?_ ?_ ?_|refine acallQ_sc (ref_last_c _ hlg) rfl rfl ?_ ?_ ?_|refine acallH_sc (ref_epoch_c _ w1) rfl rfl ?_ ?_ ?_|refine acallQ_sc (ref_epoch_c _ w1) rfl rfl ?_ ?_ ?_);iterate 2 (focus((try simp(disch:=omega) only[go_sem,aa,bJ])<;>(try omega)<;>fail)))|((first|refine zX (ref_epoch_c _ w1) rfl ?_ ?_);(focus((try simp(disch:=omega) only[go_sem,aa,bJ])<;>(try omega)<;>fail)))|((first|refine zX (ref_last_c _ hlg2) rfl ?_ ?_);(focus((try simp(disch:=omega) only[go_sem,aa,bJ])<;>(try omega)<;>fail)))|((first|refine zX (ref_last_c _ hlg) rfl ?_ ?_);(focus((try simp(disch:=omega) only[go_sem,aa,bJ])<;>(try omega)<;>fail)))|((first|(with_reducible refine aunder_i ?_ ?_<;>intro hg)|with_reducible intro hg)<;>(first|(exfalso;simp at hg;done)|(have hg':=hg;(try simp only[hcs,RN,RY,RZ] at hg');(try simp only[hg])))))<;>(try simp(disch:=omega) only[go_sem,aa,bJ])<;>(repeat' with_reducible refine Sg ?_ ?_)<;>(try(with_reducible refine hK _ ?_;clear hK K)))
|omega)
   all_goals refine⟨n+1,by omega,by omega,?_⟩
   all_goals(cases ha:lh (l.getD n default) (l.getD (cd l n).1 default))
   all_goals(have ha2:=ha;simp only[lh,SC,RK,RB,UR,UH,RT] at ha2)
   all_goals first
    |(exfalso;omega)
    |(refine zV [] rfl rfl rfl rfl ?_ ?_<;>simp(disch:=omega) only[go_sem,aa,Si,cd,mx,ha,Rx,Rw]<;>(try rfl))
  ·have e:n=l.length:=by omega
   subst e;unfold bQ;rw[Rx h0,Rw (by omega),Rx (by omega)];exact zEe @jS.eq_1
  ·have e:n=l.length:=by omega
   subst e;unfold bQ;rw[Rx h0,Rw (by omega),Rw (by omega)];exact zEe @jS.eq_1
open Go Go.Shelf
def yW:Go.Shelf.Ren:=⟨fun|171=>260|243=>271|246=>274|283=>275|284=>276|285=>277|286=>278|129=>280|317=>279|318=>281|319=>282|320=>283|337=>284|338=>285|n=>n,fun|3=>3|9=>9|2=>2|4=>4|171=>284|0=>0|53=>285|37=>239|5=>5|173=>288|212=>291|51=>267|20=>20|213=>292|46=>172|232=>295|233=>296|n=>n,fun|17=>3|18=>4|19=>5|n=>n⟩
theorem KN:Go.Proofs.LaysM.n171 Tryz.prog yW:={
 mixed:=by kernel_rfl
 f129:=Tryz.func280.trans (congrArg some (by kernel_rfl))
 f171:=Tryz.func260.trans (congrArg some (by kernel_rfl))
 f243:=Tryz.func271.trans (congrArg some (by kernel_rfl))
 f246:=Tryz.func274.trans (congrArg some (by kernel_rfl))
 f283:=Tryz.func275.trans (congrArg some (by kernel_rfl))
 f284:=Tryz.func276.trans (congrArg some (by kernel_rfl))
 f285:=Tryz.func277.trans (congrArg some (by kernel_rfl))
 f286:=Tryz.func278.trans (congrArg some (by kernel_rfl))
 f317:=Tryz.func279.trans (congrArg some (by kernel_rfl))
 f318:=Tryz.func281.trans (congrArg some (by kernel_rfl))
 f319:=Tryz.func282.trans (congrArg some (by kernel_rfl))
 f320:=Tryz.func283.trans (congrArg some (by kernel_rfl))
 f337:=Tryz.func284.trans (congrArg some (by kernel_rfl))
 f338:=Tryz.func285.trans (congrArg some (by kernel_rfl))
 t0:=Tryz.underlying0
 a0:=Tryz.isAgg0
 z0:=Tryz.sizeOf0
 v0:=Tryz.zeroValue0
 t2:=Tryz.underlying2
 a2:=Tryz.isAgg2
 z2:=Tryz.sizeOf2
 v2:=Tryz.zeroValue2
 t3:=Tryz.underlying3
 a3:=Tryz.isAgg3
 z3:=Tryz.sizeOf3
 v3:=Tryz.zeroValue3
 t4:=Tryz.underlying4
 a4:=Tryz.isAgg4
 z4:=Tryz.sizeOf4
 v4:=Tryz.zeroValue4
 t5:=Tryz.underlying5
 a5:=Tryz.isAgg5
 z5:=Tryz.sizeOf5
 v5:=Tryz.zeroValue5
 t9:=Tryz.underlying9
 a9:=Tryz.isAgg9
 z9:=Tryz.sizeOf9
 v9:=Tryz.zeroValue9
 t20:=Tryz.underlying20
 a20:=Tryz.isAgg20
 z20:=Tryz.sizeOf20
 v20:=Tryz.zeroValue20
 t37:=Tryz.underlying239
 a37:=Tryz.isAgg239
 z37:=Tryz.sizeOf239
 v37:=Tryz.zeroValue239
 t46:=Tryz.underlying172
 a46:=Tryz.isAgg172
 z46:=Tryz.sizeOf172
 v46:=Tryz.zeroValue172
 t51:=Tryz.underlying267
 a51:=Tryz.isAgg267
 z51:=Tryz.sizeOf267
 v51:=Tryz.zeroValue267
 t53:=Tryz.underlying285
 a53:=Tryz.isAgg285
 z53:=Tryz.sizeOf285
 v53:=Tryz.zeroValue285
 t171:=Tryz.underlying284
 a171:=Tryz.isAgg284
 z171:=Tryz.sizeOf284
 v171:=Tryz.zeroValue284
 t173:=Tryz.underlying288
 a173:=Tryz.isAgg288
 z173:=Tryz.sizeOf288
 v173:=Tryz.zeroValue288
 t212:=Tryz.underlying291
 a212:=Tryz.isAgg291
 z212:=Tryz.sizeOf291
 v212:=Tryz.zeroValue291
 t213:=Tryz.underlying292
 a213:=Tryz.isAgg292
 z213:=Tryz.sizeOf292
 t232:=Tryz.underlying295
 a232:=Tryz.isAgg295
 z232:=Tryz.sizeOf295
 v232:=Tryz.zeroValue295
 t233:=Tryz.underlying296
 a233:=Tryz.isAgg296
 z233:=Tryz.sizeOf296
 v233:=Tryz.zeroValue296
 g17:=by kernel_rfl
 g18:=by kernel_rfl
 g19:=by kernel_rfl
 i0:=by kernel_rfl
 i2:=by kernel_rfl
 i3:=by kernel_rfl
 i4:=by kernel_rfl
 i5:=by kernel_rfl
 i9:=by kernel_rfl
 i20:=by kernel_rfl
 i37:=by kernel_rfl
 i46:=by kernel_rfl
 i51:=by kernel_rfl
 i53:=by kernel_rfl
 i171:=by kernel_rfl
 i173:=by kernel_rfl
 i212:=by kernel_rfl
 i232:=by kernel_rfl
 i233:=by kernel_rfl
 m17:=by kernel_rfl
 m18:=by kernel_rfl
 m19:=by kernel_rfl }
theorem OB{w:World}(ht:eP w){nm:String}{g:Nat}(hg:Tryz.prog.globalNamed nm=some g)(hm:(g,Lib.pow10Tab.map fun z=>Value.int .u64 z)∈H3):Lib.TabIs Tryz.prog w nm .u64 Lib.pow10Tab:=by obtain⟨ty,fz,h⟩:=ht _ hm;unfold Lib.TabIs World.var?;rw[hg,UV];simp only[h]
theorem D4(w:World)(k:Nat)(os:Array Obj):Below w.heap.size w (Sort.grow (w.drewN k) os):=
 ⟨rfl,rfl,rfl,by rw[Sort.size_grow];exact Vm _ _,fun i hi=>Sort.heap_grow_old _ _ hi⟩
theorem J2(n:Int)(h:okI n):ab Tryz.prog [] 260 [I n] (ret (S (Lib.itoa n))):=
 mV ⟨_,Tryz.func260,by kernel_rfl,by kernel_rfl⟩ rfl rfl fun w ht=>
  (Any.strconv_Itoa KN n h.1 h.2 w (OB ht (g:=3) (by kernel_rfl) (St ..))).mono fun e w' hh=>by obtain⟨h1,k,os,h2⟩:=hh;subst h2;exact⟨h1,D4 w k os⟩
def rJ(z:Int):List UInt8×Int:=if bd z then(fq z,0) else([],3)
theorem A5{n:Int}(h:0≤n):Lib.itoa n=Lib.decDigits n.toNat:=by unfold Lib.itoa;rw[Rw (by omega)]
theorem rN{z:Int}(h:bd z):okI (epZ z)∧okI (coZ z)∧Lib.itoa (epZ z)=Lib.decDigits (z/2147483648).toNat∧Lib.itoa (coZ z)=Lib.decDigits (z%2147483648).toNat∧(Lib.decDigits (z/2147483648).toNat).length≤10∧(Lib.decDigits (z%2147483648).toNat).length≤10:=by
 have h':=h;unfold bd at h';have e1:epZ z=z/2147483648:=by unfold epZ;rw[Rx h]
 have e2:coZ z=z%2147483648:=by unfold coZ;rw[Rx h]
 rw[e1,e2];refine⟨⟨by omega,by omega⟩,⟨by omega,by omega⟩,A5 (by omega),A5 (by omega),p7 _ 9 (by omega),p7 _ 9 (by omega)⟩
theorem I1(z:Int):ab Tryz.prog [] 236 [I z] (ret (.tup [S (rJ z).1,I (rJ z).2])):=by
 unfold rJ
 by_cases h:bd z
 ·rw[Rx h]
  obtain⟨a,b,c,d,e,f⟩:=rN h;have i1:=J2 _ a;have i2:=J2 _ b;rw[c] at i1;rw[d] at i2;refine zJ Tryz.func236 Tryz.ntmps236 Tryz.results236 ?_;simp only[go_sem]
  (refine zW qw (zc (zgood_c z) (z4 (sU z) (Ec z) i1 i2)) X5 (z2 ?_ ?_)<;>(repeat with_reducible intro hc))
  all_goals first|(exfalso;exact absurd h (by assumption))|skip
  all_goals exact zEe (zx @fq.eq_1 (zx @List.append_assoc.{0} (zx @List.cons_append.{0} @List.nil_append.{0})))
 ·rw[Rw h]
  refine zJ Tryz.func236 Tryz.ntmps236 Tryz.results236 ?_;simp only[go_sem]
  (refine zW qw (z1 (zgood_c z)) X5 (z2 ?_ ?_)<;>(try with_reducible intro(K:ASt→Prop) hK)<;>(repeat with_reducible intro hc))
  all_goals first|(exfalso;exact absurd (by assumption) h)|skip
  all_goals exact zEe X5
theorem Av(n:Nat):iH n=Lib.decDigits n:=by
 induction n using Nat.strongRecOn with
 | _ n ih=>
   by_cases h:n<10
   ·rw[jN h,gJ h];unfold dig;rw[Tg h]
   ·rw[nQ h,nv h,ih (n/10) (by omega)];rfl
theorem yG(z:Int)(hz:okI z):ab Tryz.prog [] 214 [I z] (ret (.tup [S (rJ z).1,I (rJ z).2])):=by
 unfold rJ
 by_cases h:bd z
 ·rw[Rx h]
  obtain⟨_,_,_,_,e,f⟩:=rN h;have h':=h;unfold bd at h';have i1:=ko (z/2147483648).toNat (by omega);have i2:=ko (z%2147483648).toNat (by omega);rw[Av,show(((z/2147483648).toNat:Nat):Int)=z/2147483648 by omega] at i1;rw[Av,show(((z%2147483648).toNat:Nat):Int)=z%2147483648 by omega] at i2;have t1:z.tdiv 2147483648=z/2147483648:=Uc (by omega);have t2:z.tmod 2147483648=z%2147483648:=US (by omega);refine zJ Tryz.func214 Tryz.ntmps214 Tryz.results214 ?_;simp only[go_sem]
  (refine zW qw (z3 (ref_zgood_c z hz) i1 i2) (zx @t1 @t2) (z2 ?_ ?_)<;>(repeat with_reducible intro hc))
  all_goals first|(exfalso;exact absurd h (by assumption))|skip
  all_goals exact zEe (zx @fq.eq_1 (zx @List.append_assoc.{0} (zx @List.cons_append.{0} @List.nil_append.{0})))
 ·rw[Rw h]
  refine zJ Tryz.func214 Tryz.ntmps214 Tryz.results214 ?_;simp only[go_sem]
  (refine zW qw (z1 (ref_zgood_c z hz)) X5 (z2 ?_ ?_)<;>(try with_reducible intro(K:ASt→Prop) hK)<;>(repeat with_reducible intro hc))
  all_goals first|(exfalso;exact absurd (by assumption) h)|skip
  all_goals exact zEe X5
structure CSt where
 t:XI
 w:List AWatch
 n:List XJ
def jv(q:XI×List XL×Int)(p:CSt)(x:ATxn):CSt:=⟨q.1,if x.op=2 then hI (cC p.w q.2.1).2 x.session else(cC p.w q.2.1).2,p.n++(cC p.w q.2.1).1⟩
def iW:List ATxn→CSt→CSt×Int
 |[],p=>(p,0)
 |x::r,p=>if(ah p.t x).2.2=0 then iW r (jv (ah p.t x) p x) else(p,(ah p.t x).2.2)
def au(s:XH)(n:Int):XH×List XJ×Int:=
 if s.peer.done<0∨n<s.peer.done∨s.peer.log.length<n then(default,[],3) else
 let q:=iW ((s.peer.log.drop s.peer.done.toNat).take (n.toNat-s.peer.done.toNat)) ⟨s.tree,s.watches,[]⟩
 if q.2=0 then(⟨s.up,s.disk,⟨s.peer.id,s.peer.epoch,s.peer.log,n⟩,q.1.t,q.1.w⟩,q.1.n,0) else(default,[],q.2)
theorem nI{x:ATxn}{r:List ATxn}{p:CSt}(h:(ah p.t x).2.2=0):iW (x::r) p=iW r (jv (ah p.t x) p x):=by rw[iW,Rx h]
theorem qT{x:ATxn}{r:List ATxn}{p:CSt}(h:¬ (ah p.t x).2.2=0):iW (x::r) p=(p,(ah p.t x).2.2):=by rw[iW,Rw h]
theorem Io(l:List AWatch)(s:Int):(hI l s).length≤l.length:=SK _ _
theorem qt(q:XI×List XL×Int)(p:CSt)(x:ATxn):(jv q p x).n.length+(jv q p x).w.length≤p.n.length+p.w.length:=by
 have h:=jp p.w q.2.1;unfold jv;simp only[Ry];split
 ·have:=Io (cC p.w q.2.1).2 x.session;omega
 ·omega
theorem wk(l:List ATxn)(k:Nat)(h:k<l.length):l.drop k=l.getD k default::l.drop (k+1):=by rw[SU h,Ru,Rv h];rfl
theorem uB{p:CSt}{x:ATxn}(h:okT p.t)(hx:x.wf)(hp:x.path.length≤1048576):okT (jv (ah p.t x) p x).t:=FA h hx hp
theorem AB(s:XH)(n:Int)(hw:s.wf)(ht:okT s.tree)(hx:∀ x,x∈s.peer.log→x.path.length≤1048576):ab Tryz.prog [] 115 [s.av,I n] (ret (.tup [(au s n).1.av,.d (.sl 3 ((au s n).2.1.map XJ.row)),I (au s n).2.2])):=by
 obtain⟨_,h1,h2,h3,h4⟩:=hw;have hl7:=h2.2.2.1.1
 by_cases hb:s.peer.done<0∨n<s.peer.done∨s.peer.log.length<n
 ·unfold au;rw[Rx hb]
  refine zJ Tryz.func115 Tryz.ntmps115 Tryz.results115 ?_;simp only[go_sem]
  (refine zW qw zn X5 (z1 ?_)<;>(repeat with_reducible intro hc))
  all_goals try exact zk1
  all_goals exact zEe dfl
 unfold au;rw[Rw hb];have hd0:0≤s.peer.done:=by omega
 have q1:(s.peer.done:Int)=((s.peer.done.toNat:Nat):Int):=by omega
 have q2:n=((n.toNat:Nat):Int):=by omega
 have q3:s.peer.done.toNat≤n.toNat:=by omega
 have q4:n.toNat≤s.peer.log.length:=by omega
 have hX:∀ x,x∈(s.peer.log.drop s.peer.done.toNat).take (n.toNat-s.peer.done.toNat)→x.wf∧x.path.length≤1048576:=fun x hm=>by have hm2:=Sw (Sf hm);exact⟨h2.2.2.1.2 x hm2,hx x hm2⟩
 have hXl:((s.peer.log.drop s.peer.done.toNat).take (n.toNat-s.peer.done.toNat)).length=n.toNat-s.peer.done.toNat:=by rw[RH,RL];omega
 have hXe:List.take (n.toNat-s.peer.done.toNat) (List.drop s.peer.done.toNat (s.peer.log.map ATxn.row))=((s.peer.log.drop s.peer.done.toNat).take (n.toNat-s.peer.done.toNat)).map ATxn.row:=by rw[U0,UF]
 generalize (s.peer.log.drop s.peer.done.toNat).take (n.toNat-s.peer.done.toNat)=X at hX hXl hXe ⊢;generalize hF:iW X ⟨s.tree,s.watches,[]⟩=F;simp only;refine zJ Tryz.func115 Tryz.ntmps115 Tryz.results115 ?_;simp only[go_sem]
 (refine zW qw zn @hXe (z1 ?_)<;>(repeat with_reducible intro hc))
 all_goals try exact zk1
 refine WR (WT 7 3 rfl) ?_;simp only[go_sem];refine WQ (ι:=Nat×CSt) (fun v=>v.1≤X.length∧iW (X.drop v.1) v.2=F∧okT v.2.t∧v.2.n.length+v.2.w.length≤s.watches.length) (fun v=>X.length-v.1) [1,42,43] (fun v=>[(2,.ptr 0 0),(4,.ptr 1 0),(7,.osl 2 3 0 v.2.n.length),(44,I v.1)]) (fun v=>[.cells [B s.up,.d (.sl 3 (s.disk.files.map AFile.row)),I s.peer.id,I s.peer.epoch,.d (.sl 7 (s.peer.log.map ATxn.row)),I s.peer.done,I v.2.t.zxid,.d (.sl 9 (v.2.t.nodes.map XG.row)),.d (.sl 1 (v.2.t.sessions.map a8)),.d (.sl 3 (v.2.w.map AWatch.row))],.cells [B false,.d (.sc (.slice none 0 0)),I 0,I 0,.d (.sc (.slice none 0 0)),I 0,I 0,.d (.sc (.slice none 0 0)),.d (.sc (.slice none 0 0)),.d (.sc (.slice none 0 0))],.rows 3 (v.2.n.map XJ.row)]) (0,⟨s.tree,s.watches,[]⟩) ?_ ?_ ?_
 ·exact⟨RI _,hF,ht,by simp⟩
 ·simp only[go_sem];exact zSm X5
 intro⟨k,p⟩ ⟨hk,hr,hok,hlen⟩;simp only at hk hr hok hlen;simp only[go_sem]
 by_cases hk2:k<X.length
 case neg=>
  have hke:k=X.length:=by omega
  subst hke;rw[Tt] at hr;subst hr;simp only[iW,SY];have t1:List.take p.n.length (p.n.map XJ.row)=p.n.map XJ.row:=Rz (by simp)
  (refine zW qw zn @t1 (z1 ?_)<;>(repeat with_reducible intro hc))
  all_goals exact zEe @t1
 obtain⟨x1,x2⟩:=hX _ (bs X default hk2);rw[wk X k hk2] at hr;have hrow:∀ z,List.getD (List.map ATxn.row X) k z=(X.getD k default).row:=fun z=>ATxn.rgetD X k z hk2
 generalize X.getD k default=x at hr x1 x2 hrow;have hok2:=uB hok x1 x2;have hev:=Ca (t:=p.t) (x:=x);have ha:=iA p.t x hok.1 x1.2.2.2.1 x1.2.2.2.2.1;have hwl:p.w.length*32≤140737488351232:=by have:=h4.1;omega
 by_cases he:(ah p.t x).2.2=0
 case neg=>
  rw[qT he] at hr;subst hr;generalize ah p.t x=q at he ha;obtain⟨a,es,e⟩:=q;simp only at he ha;simp only[Rw he]
  (refine zW qw (z1 ha) (zx @hrow @ATxn.row.eq_1) (z1 ?_)<;>(repeat with_reducible intro hc))
  all_goals first|exact absurd hc he|skip
  all_goals exact zEe dfl
 rw[nI he] at hr;generalize ah p.t x=q at he ha hr hok2 hev;obtain⟨a,es,e⟩:=q;simp only at he ha hev;subst he;have hnl:=qt (a,es,0) p x;have hf:=PF p.w es hwl (by omega);have hfl:=jp p.w es;have hdr:=OW (cC p.w es).2 x.session (by omega);have hnx:jv (a,es,0) p x=⟨a,if x.op=2 then hI (cC p.w es).2 x.session else(cC p.w es).2,p.n++(cC p.w es).1⟩:=rfl;generalize cC p.w es=f at hf hfl hdr hnx;obtain⟨fn,fl⟩:=f;simp only at hf hfl hdr hnx;have t1:List.take p.n.length (p.n.map XJ.row)=p.n.map XJ.row:=Rz (by simp)
 (refine zW qw (z3 ha hf hdr) (zx @hrow (zx @ATxn.row.eq_1 @t1)) (z2 ?_ ?_)<;>(repeat with_reducible intro hc))
 ·refine⟨(k+1,jv (a,es,0) p x),⟨by simp only;omega,hr,hok2,by simp only;omega⟩,by simp only;omega,?_⟩
  rw[hnx];simp only[Rx hc];exact zFr [0,1,5] (zx @t1 (zx @List.map_append.{0,0} @List.length_append.{0}))
 ·refine⟨(k+1,jv (a,es,0) p x),⟨by simp only;omega,hr,hok2,by simp only;omega⟩,by simp only;omega,?_⟩
  rw[hnx];simp only[Rw hc];exact zFr [0,1,5] (zx @t1 (zx @List.map_append.{0,0} @List.length_append.{0}))
theorem p6(s:XH)(n:Int)(hw:s.wf)(ht:okT s.tree)(hx:∀ x,x∈s.peer.log→x.path.length≤1048576):ab Tryz.prog [] 94 [s.av,I n] (ret (.tup [(au s n).1.av,.d (.sl 3 ((au s n).2.1.map XJ.row)),I (au s n).2.2])):=by
 have hcp:=qk s hw;obtain⟨_,h1,h2,h3,h4⟩:=hw;have hl7:=h2.2.2.1.1
 by_cases hb:s.peer.done<0∨n<s.peer.done∨s.peer.log.length<n
 ·unfold au;rw[Rx hb]
  refine zJ Tryz.func94 Tryz.ntmps94 Tryz.results94 ?_;simp only[go_sem]
  (refine zW qw zn X5 (z1 ?_)<;>(repeat with_reducible intro hc))
  all_goals try exact zk1
  all_goals exact zEe dfl
 unfold au;rw[Rw hb];have hd0:0≤s.peer.done:=by omega
 have q3:s.peer.done.toNat≤n.toNat:=by omega
 have q4:n.toNat≤s.peer.log.length:=by omega
 have hX:∀ x,x∈(s.peer.log.drop s.peer.done.toNat).take (n.toNat-s.peer.done.toNat)→x.wf∧x.path.length≤1048576:=fun x hm=>by have hm2:=Sw (Sf hm);exact⟨h2.2.2.1.2 x hm2,hx x hm2⟩
 have hXl:((s.peer.log.drop s.peer.done.toNat).take (n.toNat-s.peer.done.toNat)).length=n.toNat-s.peer.done.toNat:=by rw[RH,RL];omega
 have hXg:∀ k,k<n.toNat-s.peer.done.toNat→s.peer.log.getD (s.peer.done.toNat+k) default=((s.peer.log.drop s.peer.done.toNat).take (n.toNat-s.peer.done.toNat)).getD k default:=fun k hk=>by rw[Ru,Ru,SZ,Rx hk,Sz]
 generalize (s.peer.log.drop s.peer.done.toNat).take (n.toNat-s.peer.done.toNat)=X at hX hXl hXg ⊢;generalize hF:iW X ⟨s.tree,s.watches,[]⟩=F;simp only;refine zJ Tryz.func94 Tryz.ntmps94 Tryz.results94 ?_;simp only[go_sem]
 (refine zW qw (z1 hcp) X5 (z1 ?_)<;>(repeat with_reducible intro hc))
 all_goals try exact zk1
 refine WR (WT 7 3 rfl) ?_;simp only[go_sem];refine WQ (ι:=Nat×CSt) (fun v=>v.1≤X.length∧iW (X.drop v.1) v.2=F∧okT v.2.t∧v.2.n.length+v.2.w.length≤s.watches.length) (fun v=>X.length-v.1) [1] (fun v=>[(2,.ptr 0 0),(4,.ptr 1 0),(7,.osl 2 3 0 v.2.n.length)]) (fun v=>[.cells [B s.up,.d (.sl 3 (s.disk.files.map AFile.row)),I s.peer.id,I s.peer.epoch,.d (.sl 7 (s.peer.log.map ATxn.row)),I (s.peer.done+v.1),I v.2.t.zxid,.d (.sl 9 (v.2.t.nodes.map XG.row)),.d (.sl 1 (v.2.t.sessions.map a8)),.d (.sl 3 (v.2.w.map AWatch.row))],.cells [B false,.d (.sc (.slice none 0 0)),I 0,I 0,.d (.sc (.slice none 0 0)),I 0,I 0,.d (.sc (.slice none 0 0)),.d (.sc (.slice none 0 0)),.d (.sc (.slice none 0 0))],.rows 3 (v.2.n.map XJ.row)]) (0,⟨s.tree,s.watches,[]⟩) ?_ ?_ ?_
 ·exact⟨RI _,hF,ht,by simp⟩
 ·simp only[go_sem,Int.natCast_zero,Wh];exact zSm X5
 intro⟨k,p⟩ ⟨hk,hr,hok,hlen⟩;simp only at hk hr hok hlen;simp only[go_sem]
 by_cases hk2:k<X.length
 case neg=>
  have hke:k=X.length:=by omega
  subst hke;rw[Tt] at hr;subst hr;simp only[iW,SY];have t1:List.take p.n.length (p.n.map XJ.row)=p.n.map XJ.row:=Rz (by simp);have hdn:s.peer.done+(X.length:Int)=n:=by omega
  rw[hdn]
  (refine zW qw zn @t1 (z1 ?_)<;>(repeat with_reducible intro hc))
  all_goals try exact zk1
  all_goals exact zEe @t1
 have hxg:=hXg k (by omega);obtain⟨x1,x2⟩:=hX _ (bs X default hk2);rw[wk X k hk2] at hr;have hrow:∀ z,List.getD (List.map ATxn.row s.peer.log) (s.peer.done.toNat+k) z=(X.getD k default).row:=fun z=>by rw[ATxn.rgetD s.peer.log (s.peer.done.toNat+k) z (by omega),hxg]
 have hnat:(s.peer.done+(k:Int)).toNat=s.peer.done.toNat+k:=by omega
 generalize X.getD k default=x at hr x1 x2 hrow;have hok2:=uB hok x1 x2;have hev:=Ca (t:=p.t) (x:=x);have ha:=dC p.t x hok.1 hok.2 x1.1 x2 x1.2.2.2.2.1;have hwl:p.w.length*32≤140737488351232:=by have:=h4.1;omega
 by_cases he:(ah p.t x).2.2=0
 case neg=>
  rw[qT he] at hr;subst hr;generalize ah p.t x=q at he ha;obtain⟨a,es,e⟩:=q;simp only at he ha;simp only[Rw he]
  (refine zW qw (z1 ha) (zx @hnat (zx @hrow @ATxn.row.eq_1)) (z1 ?_)<;>(repeat with_reducible intro hc))
  all_goals first|exact absurd hc he|(exfalso;omega)|skip
  all_goals exact zEe dfl
 rw[nI he] at hr;generalize ah p.t x=q at he ha hr hok2 hev;obtain⟨a,es,e⟩:=q;simp only at he ha hev;subst he;have hnl:=qt (a,es,0) p x;have hf:=Dg p.w es hwl (by omega);have hfl:=jp p.w es;have hdr:=D8 (cC p.w es).2 x.session (by omega);have hnx:jv (a,es,0) p x=⟨a,if x.op=2 then hI (cC p.w es).2 x.session else(cC p.w es).2,p.n++(cC p.w es).1⟩:=rfl;generalize cC p.w es=f at hf hfl hdr hnx;obtain⟨fn,fl⟩:=f;simp only at hf hfl hdr hnx;have t1:List.take p.n.length (p.n.map XJ.row)=p.n.map XJ.row:=Rz (by simp)
 (refine zW qw (z3 ha hf hdr) (zx @hnat (zx @hrow (zx @ATxn.row.eq_1 @t1))) (z2 ?_ ?_)<;>(repeat with_reducible intro hc))
 all_goals try exact zk1
 ·refine⟨(k+1,jv (a,es,0) p x),⟨by simp only;omega,hr,hok2,by simp only;omega⟩,by simp only;omega,?_⟩
  rw[hnx];simp only[Rx hc];exact zFr [0,1,5] (zx @t1 (zx @List.map_append.{0,0} (zx @List.length_append.{0} @Int.add_assoc)))
 ·refine⟨(k+1,jv (a,es,0) p x),⟨by simp only;omega,hr,hok2,by simp only;omega⟩,by simp only;omega,?_⟩
  rw[hnx];simp only[Rw hc];exact zFr [0,1,5] (zx @t1 (zx @List.map_append.{0,0} (zx @List.length_append.{0} @Int.add_assoc)))
def cu(t:XI):List ATxn→Option XI
 |[]=>some t
 |x::r=>if(ah t x).2.2=0 then cu (ah t x).1 r else none
theorem ro(a b:List ATxn):∀ t,cu t (a++b)=(cu t a).bind fun u=>cu u b:=by
 induction a with
 |nil=>intro t;rfl
 | cons x a ih=>
   intro t;rw[Ss,cu,cu];split
   ·exact ih _
   ·rfl
theorem lr{t u:XI}{l:List ATxn}(h:cu t l=some u)(k:Nat):∃ v,cu t (l.take k)=some v:=by
 rw[←SA k l,ro] at h;cases e:cu t (l.take k) with
 |none=>rw[e] at h;cases h
 |some v=>exact⟨v,rfl⟩
theorem FQ{t u v:XI}{a b:List ATxn}(h1:cu t a=some u)(h2:cu t (a++b)=some v):cu u b=some v:=by rw[ro,h1] at h2;exact h2
theorem xY:∀(X:List ATxn) (p:CSt) {v:XI},cu p.t X=some v→(iW X p).2=0∧(iW X p).1.t=v
 |[],p,v,h=>by injection h with h;exact⟨rfl,h⟩
 | x :: X,p,v,h=>by
   rw[cu] at h;split at h
   ·rename_i he
    rw[nI he];exact xY X (jv (ah p.t x) p x) h
   ·cases h
structure XV (s:XH) (e:Option (List UInt8)) (a:Nat):Prop where
 up:s.up=true
 disk:s.disk.files=mkD e (encs (s.peer.log.take a)) (encs (s.peer.log.drop a))
 le:a≤s.peer.log.length
 log:logOk s.peer.log
 small:(encs s.peer.log).length≤1048576
 elen:∀ x,e=some x→x.length≤1048576
 d0:0≤s.peer.done
 dl:s.peer.done≤s.peer.log.length
 tree:cu t00 (s.peer.log.take s.peer.done.toNat)=some s.tree
 play:∃ v,cu t00 s.peer.log=some v
theorem gG(l:List ATxn)(a:Nat):encs (l.take a)++encs (l.drop a)=encs l:=by rw[←AD,SA]
theorem XV.okD{s:XH}{e:Option (List UInt8)}{a:Nat}(h:XV s e a):okD e (encs (s.peer.log.take a)) (encs (s.peer.log.drop a)):=
 ⟨h.elen,by rw[←Ry,gG];exact h.small⟩
theorem XV.scan{s:XH}{e:Option (List UInt8)}{a:Nat}(h:XV s e a):scanT (encs s.peer.log)=(s.peer.log,(encs s.peer.log).length):=by have:=Bb h.log (rest:=[]) EQ;rwa[R5] at this
theorem XV.recovers{s:XH}{e:Option (List UInt8)}{a:Nat}(h:XV s e a):recoverD s.disk.files=(s.peer.log,⟨mkD e (encs s.peer.log) []⟩,0):=by rw[h.disk,lG h.okD,gG,h.scan]
theorem XV.good{s:XH}{e:Option (List UInt8)}{a:Nat}(h:XV s e a):bE s.disk.files=true:=by rw[h.disk];exact gu h.okD
theorem XV.take{s:XH}{e:Option (List UInt8)}{a:Nat}(h:XV s e a){x:ATxn}(hx:aT x=0)(hz:aA s.peer.log<x.zxid)(hl:(encs s.peer.log).length+(cE x).1.length≤1048576)(hp:∃ v,cu t00 (s.peer.log++[x])=some v)(safe:Bool) :
  ∃ d,bg s x safe=(⟨s.up,d,⟨s.peer.id,s.peer.epoch,s.peer.log++[x],s.peer.done⟩,s.tree,s.watches⟩,0)∧XV ⟨s.up,d,⟨s.peer.id,s.peer.epoch,s.peer.log++[x],s.peer.done⟩,s.tree,s.watches⟩ e (if safe then s.peer.log.length+1 else a):=by
 have hle:=h.le;have hlen:(encs (s.peer.log.take a)).length+(encs (s.peer.log.drop a)).length=(encs s.peer.log).length:=by rw[←Ry,gG]
 have hap:=Fn h.okD hx (by omega) safe;refine⟨(cI s.disk.files x safe).1,?_,?_⟩
 ·unfold bg
  rw[Rw (by omega),Rx (by rw[h.disk,hap])]
 ·have hd:(cI s.disk.files x safe).1.files=mkD e (encs ((s.peer.log++[x]).take (if safe then s.peer.log.length+1 else a))) (encs ((s.peer.log++[x]).drop (if safe then s.peer.log.length+1 else a))):=by
   rw[h.disk,hap];cases safe with
   | true=>
     simp only[SY];have e1:(s.peer.log++[x]).take (s.peer.log.length+1)=s.peer.log++[x]:=Rz (by simp);have e2:(s.peer.log++[x]).drop (s.peer.log.length+1)=[]:=T3 (by simp);rw[e1,e2,fF,iP,←Sd,gG]
   | false=>
     simp only[SX,S8];rw[Sa hle,Ti hle,iP]
  refine⟨h.up,hd,?_,kZ h.log (fun _=>hz) hx,by simp only;rw[iP,Ry];exact hl,h.elen,h.d0,?_,?_,hp⟩
  ·simp only[Ry,Sj];split<;>omega
  ·have:=h.dl;simp only[Ry,Sj];omega
  ·have:=h.dl;have:=h.d0
   simp only;rw[Sa (by omega)];exact h.tree
structure XY (s:XH) (e:Option (List UInt8)) (l:List ATxn):Prop where
 up:s.up=false
 disk:∃ c,s.disk.files=mkD e c []∧c.length≤1048576∧(scanT c).1=l
 elen:∀ x,e=some x→x.length≤1048576
 log:s.peer.log=[]
 done:s.peer.done=0
 ep:s.peer.epoch=0
 tree:s.tree=t00
 watches:s.watches=[]
 play:∃ v,cu t00 l=some v
theorem XV.crash{s:XH}{e:Option (List UInt8)}{a:Nat}(h:XV s e a){keep:Int}(hk:0≤keep):∃ k,a≤k∧k≤s.peer.log.length∧(bR s keep).2=0∧XY (bR s keep).1 e (s.peer.log.take k)∧(bR s keep).1.peer.id=s.peer.id:=by
 have hc:=Jn h.okD hk;have hle:=h.le
 have hpre:encs (s.peer.log.take a)++(encs (s.peer.log.drop a)).take keep.toNat=(encs s.peer.log).take ((encs (s.peer.log.take a)).length+keep.toNat):=by
  conv=>rhs;rw[←gG s.peer.log a]
  rw[V9,Rz (Vm _ _),Wa]
 obtain⟨k,k1,k2,k3⟩:=JG h.log ((encs (s.peer.log.take a)).length+keep.toNat);have he:eJ s.disk.files keep=(⟨mkD e ((encs s.peer.log).take ((encs (s.peer.log.take a)).length+keep.toNat)) []⟩,0):=by rw[h.disk,hc,hpre]
 have hs:bR s keep=(⟨false,⟨mkD e ((encs s.peer.log).take ((encs (s.peer.log.take a)).length+keep.toNat)) []⟩,⟨s.peer.id,0,[],0⟩,t00,[]⟩,0):=by unfold bR;rw[he,Rx rfl]
 refine⟨k,k3 a hle (Vm _ _),k1,by rw[hs],?_,by rw[hs]⟩;rw[hs];exact⟨rfl,⟨_,rfl,by rw[RH];have:=h.small;omega,by rw[k2]⟩,h.elen,rfl,rfl,rfl,rfl,rfl,by obtain⟨v,hv⟩:=h.play;exact lr hv k⟩
theorem XY.logOk{s:XH}{e:Option (List UInt8)}{l:List ATxn}(h:XY s e l):logOk l:=by obtain⟨c,_,_,h3⟩:=h.disk;rw[←h3];exact(p9 c).1
theorem XY.good{s:XH}{e:Option (List UInt8)}{l:List ATxn}(h:XY s e l):bE s.disk.files=true:=by obtain⟨c,h1,h2,_⟩:=h.disk;rw[h1];exact gu ⟨h.elen,by simpa using h2⟩
theorem XY.recovers{s:XH}{e:Option (List UInt8)}{l:List ATxn}(h:XY s e l):recoverD s.disk.files=(l,⟨mkD e (encs l) []⟩,0)∧(encs l).length≤1048576:=by obtain⟨c,h1,h2,h3⟩:=h.disk;have hr:=lG (e:=e) (s:=c) (t:=[]) ⟨h.elen,by simpa using h2⟩;have hsm:=Dn c;rw[R5,h3] at hr;rw[h3] at hsm;exact⟨by rw[h1,hr],by omega⟩
theorem XY.boot{s:XH}{e:Option (List UInt8)}{l:List ATxn}(h:XY s e l)(id ep:Int):XV ⟨true,⟨mkD e (encs l) []⟩,⟨id,ep,l,0⟩,t00,[]⟩ e l.length:=by
 refine⟨rfl,?_,RE _,h.logOk,h.recovers.2,h.elen,Su _,by simp,?_,h.play⟩
 ·simp only;rw[RU,Tt,fF]
 ·show cu t00 (l.take 0)=some t00
  rw[S4];rfl
theorem XV.commit{s:XH}{e:Option (List UInt8)}{a:Nat}(h:XV s e a){n:Int}(h1:s.peer.done≤n)(h2:n≤s.peer.log.length) :
  ∃ t w ns,au s n=(⟨s.up,s.disk,⟨s.peer.id,s.peer.epoch,s.peer.log,n⟩,t,w⟩,ns,0)∧XV ⟨s.up,s.disk,⟨s.peer.id,s.peer.epoch,s.peer.log,n⟩,t,w⟩ e a:=by
 have h0:=h.d0;have hdl:=h.dl;obtain⟨v,hv⟩:=h.play;obtain⟨u,hu⟩:=lr hv n.toNat
 have hsplit:s.peer.log.take n.toNat=s.peer.log.take s.peer.done.toNat++(s.peer.log.drop s.peer.done.toNat).take (n.toNat-s.peer.done.toNat):=by
  conv=>lhs;rw[show n.toNat=s.peer.done.toNat+(n.toNat-s.peer.done.toNat) from by omega]
  rw[VZ]
 have hu2:=hu;rw[hsplit] at hu2;have hm:=FQ h.tree hu2;obtain⟨r1,r2⟩:=xY _ ⟨s.tree,s.watches,[]⟩ hm;have hc:¬ (s.peer.done<0∨n<s.peer.done∨(s.peer.log.length:Int)<n):=by omega
 generalize hR:iW ((s.peer.log.drop s.peer.done.toNat).take (n.toNat-s.peer.done.toNat)) ⟨s.tree,s.watches,[]⟩=R at r1 r2;refine⟨R.1.t,R.1.w,R.1.n,?_,?_⟩
 ·unfold au;rw[Rw hc];simp only;rw[hR,Rx r1]
 ·exact⟨h.up,h.disk,h.le,h.log,h.small,h.elen,by simp only;omega,h2,by simp only;rw[r2];exact hu,h.play⟩
end Go.Proofs.YtjcooccnfkfjhaaGreatDoor
