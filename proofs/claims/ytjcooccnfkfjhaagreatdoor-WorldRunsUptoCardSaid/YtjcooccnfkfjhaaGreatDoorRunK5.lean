/- What the law leans on. No condition. -/
import Derived.Shelf.Strconv.Itoa3
import Derived.Test.YtjcooccnfkfjhaaGreatDoorProg
import Derived.KernelRfl
import Derived.Test.YtjcooccnfkfjhaaGreatDoorRunK4
namespace Go.Proofs.YtjcooccnfkfjhaaGreatDoor
set_option maxHeartbeats 8000000
set_option linter.unusedVariables false
set_option linter.unusedSimpArgs false
open Go Go.RowKit
theorem QW:Pls [XE [0] (.fork 1 (XE [2,3,4] .done) 2 (XE [1,3,4] .done))]:=pls _
attribute [go_sem] Tryz.ntmps218 Tryz.results218
set_option maxRecDepth 100000
theorem Md(z:Int)(ns:List XG)(ss:List Int)(key:List UInt8)(h:ns.length*88≤140737488351232)(hr:aE (pathsN ns))(hm:¬ key∈pathsN ns):ab Tryz.prog [] 163 [.agg [I z,.d (.sl 9 (ns.map XG.row)),.d (.sl 1 (ss.map a8))],S key] (ret (I (-1))):=
 (pT ⟨z,ns,ss⟩ key h hr).re (congrArg I (nodeI_no hm))
theorem zh(t:XI)(x:ATxn)(hw:t.wf)(hps:∀ n,n∈t.nodes→n.path.length≤1048576)(hz:okI x.zxid)(hp:x.path.length≤1048576)(hd:okS x.data)(h0:bv t x=0)(o4:x.op=4):ab Tryz.prog [] 157 [t.av,x.av] (ret (.tup [(ah t x).1.av,.d (.sl 2 ((ah t x).2.1.map XL.row)),I (ah t x).2.2])):=by
 obtain⟨g1,g2,g3,g4,g5,g6,g7,g8⟩:=cp h0;obtain⟨h1,h2⟩:t.nodes.length*88≤140737488351232∧t.sessions.length*8≤140737488351232:=⟨hw.2.1.1,hw.2.2.1⟩;have hgc:=(cy t hw hps).re (congrArg B g1);have hxc:=(cZ x hz hp hd).re (congrArg I g2);have hcp:=mJ t h1 h2;have h400:t.nodes.length≤400:=(cr g1).2.1;have hr:aE (pathsN t.nodes):=aF g1;have hsp:=bC x.path hp;have e1:(splitP x.path).1.1=dirP x.path:=rfl;have g3':¬ x.zxid≤t.zxid:=by omega
 have hoc:=(isOpen_c t x.session h2).re (congrArg B (decide_eq_true (g5 (by omega))));obtain⟨m1,m2⟩:=g7 o4;have hnr:x.path≠[47]:=(kU g2 (by omega)).2;obtain⟨m3,m4⟩:=yy g1 m1 hnr;have hn1:=lj t.zxid t.nodes t.sessions x.path h1 hr m1;have hn2:=lj t.zxid t.nodes t.sessions (dirP x.path) h1 hr m3;have hq:=(ag hr m1).1;rw[ao] at hq;have hk:(t.nodes.getD (place (pathsN t.nodes) x.path) default).stat.kids≤0:=by unfold aw at m2;rw[Rx m1] at m2;exact m2
 have hgo:=Ni x.zxid t.nodes t.sessions x x.path h400 h2 hp hr m1 m3 m4;have hdone:(cG t x)=(⟨x.zxid,fx t.nodes x.path x.zxid,t.sessions⟩,eT x.path):=by unfold cG;rw[Rw (by omega),Rw (by omega),Rw (by omega),Rx o4]
 have hln:(fx t.nodes x.path x.zxid).length≤400:=by unfold fx;rw[py,cR _ _ hq];omega
 generalize fx t.nodes x.path x.zxid=ns2 at hgo hdone hln;rw[o4] at hgo;refine zJ Tryz.func157 Tryz.ntmps157 Tryz.results157 ?_;simp only[go_sem]
 (refine zW qw (zc hgc (zc hxc (zc hoc (zc hn1 (zc hn2 (z4 hsp hcp (ac [5,3,4,6,7,1] hgo) (ic Tryz.func218))))))) (zx @o4 (zx @e1 @g3')) (z1 ?_)<;>(repeat with_reducible intro hc))
 refine WQ (ι:=Nat) (fun k=>k≤ns2.length∧∀ j,j<k→dM (ns2.getD j default)=false) (fun k=>ns2.length-k) [4,7,15,16,404,405] (fun k=>[(406,I k)]) (fun k=>[.cells [.d (.int .i64 t.zxid),.d (.sl 9 (t.nodes.map XG.row)),.d (.sl 1 (t.sessions.map a8))],.cells [I x.zxid,I 4,I x.session,S x.path,S x.data,I x.version,I x.owner],.cells [I 0,.d (.sc (.slice none 0 0)),.d (.sc (.slice none 0 0))],.dead,.rows 1 (t.sessions.map a8),.cells [I x.zxid,.osl 8 9 0 ns2.length,.osl 4 1 0 t.sessions.length],.cells [.osl 9 2 0 (eT x.path).length],.cells [.clo 220 [] [.ptr 5 0,.ptr 1 0,.ptr 6 0]],.rows 9 (ns2.map XG.row),.rows 2 ((eT x.path).map XL.row)]) 0 ?_ ?_ ?_
 ·exact⟨by omega,fun j hj=>by omega⟩
 ·simp only[go_sem];exact zSm X5
 intro k ⟨hk,hk2⟩;simp only[go_sem]
 (refine zW qw (z2 QW (ic Tryz.func218)) @XG.rgetD (z3 ?_ ?_ ?_)<;>(repeat with_reducible intro hc))
 ·have hbig:ns2.any dM=true:=TN.2 ⟨_,aZ ns2 k (by omega),by unfold dM;rw[RB];omega⟩
  rw[cU h0 (by rw[hdone];exact hbig)];exact zEe dfl
 ·refine⟨k+1,⟨by omega,fun j hj=>?_⟩,by omega,?_⟩
  ·by_cases e:j=k
   ·subst e;unfold dM;rw[RT];omega
   ·exact hk2 j (by omega)
  exact zFr [0,1,2,3,4,5,6,7,8,9] X5
 all_goals
  have hbig:=(nC (l:=ns2) (fun j hj=>hk2 j (by omega))).1;rw[eA h0 (by rw[hdone];exact hbig),hdone];exact zEe (zx @I.eq_1 @S.eq_1)
theorem OI{t:XI}{x:ATxn}(h:bv t x=0)(o:x.op=5):x.version=(aw t x.path).1.stat.version+1:=by
 obtain⟨g1,g2,g3,g4,g5,g6,g7,g8⟩:=cp h;unfold bv at h;rw[Rw (by simp[g1]),Rw (fun h=>h g2),Rw (by omega),Rw (by omega),Rw (fun h=>h (g5 (by omega))),Rw (by omega),Rw (by omega),Rx o] at h;split at h
 ·cases h
 ·rename_i q
  exact R4 fun e=>q ⟨h,e⟩
theorem yp(t:XI)(x:ATxn)(hw:t.wf)(hps:∀ n,n∈t.nodes→n.path.length≤1048576)(hz:okI x.zxid)(hp:x.path.length≤1048576)(hd:okS x.data)(h0:bv t x=0)(o5:x.op=5):ab Tryz.prog [] 157 [t.av,x.av] (ret (.tup [(ah t x).1.av,.d (.sl 2 ((ah t x).2.1.map XL.row)),I (ah t x).2.2])):=by
 obtain⟨g1,g2,g3,g4,g5,g6,g7,g8⟩:=cp h0;obtain⟨h1,h2⟩:t.nodes.length*88≤140737488351232∧t.sessions.length*8≤140737488351232:=⟨hw.2.1.1,hw.2.2.1⟩;have hgc:=(cy t hw hps).re (congrArg B g1);have hxc:=(cZ x hz hp hd).re (congrArg I g2);have hcp:=mJ t h1 h2;have h400:t.nodes.length≤400:=(cr g1).2.1;have hr:aE (pathsN t.nodes):=aF g1;have hsp:=bC x.path hp;have e1:(splitP x.path).1.1=dirP x.path:=rfl;have g3':¬ x.zxid≤t.zxid:=by omega
 have hoc:=(isOpen_c t x.session h2).re (congrArg B (decide_eq_true (g5 (by omega))));have m1:=g8 o5;have hn1:=lj t.zxid t.nodes t.sessions x.path h1 hr m1;have hn2:=kT t.zxid t.nodes t.sessions (dirP x.path) h1 hr;have hq:=(ag hr m1).1;rw[ao] at hq;have hv:x.version=(t.nodes.getD (place (pathsN t.nodes) x.path) default).stat.version+1:=by have:=OI h0 o5;unfold aw at this;rw[Rx m1] at this;exact this
 have hvb:=((bi.1 g1).2.2.2 _ hq).1;unfold nd at hvb;obtain⟨v1,v2,_⟩:=hvb;have hdone:(cG t x)=(⟨x.zxid,setN t.nodes x,t.sessions⟩,[⟨3,x.path⟩]):=by unfold cG;rw[Rw (by omega),Rw (by omega),Rw (by omega),Rw (by omega)]
 have hadd:setN t.nodes x=t.nodes.set (place (pathsN t.nodes) x.path) (setF x (t.nodes.getD (place (pathsN t.nodes) x.path) default)):=rfl;rw[hadd] at hdone;generalize hn2':t.nodes.set (place (pathsN t.nodes) x.path) (setF x (t.nodes.getD (place (pathsN t.nodes) x.path) default))=ns2 at hdone;have hl2:ns2.length=t.nodes.length:=by rw[←hn2',RQ]
 unfold setF at hn2';have tk2:List.take t.nodes.length (ns2.map XG.row)=ns2.map XG.row:=Rz (by rw[RC];omega);refine zJ Tryz.func157 Tryz.ntmps157 Tryz.results157 ?_;simp only[go_sem]
 (repeat' first
|(with_reducible refine AR.f ?_)
|refine bI (by decide) ?_
|(with_reducible refine AWP.cond rfl ?_ ?_<;>intro hc<;>(try simp only[hcs,RN,RY,RZ] at hc))
|(refine bL fun Kk hKk=>(cm df Tryz.func218 rfl (by kernel_rfl) (by simp[Tryz.ntmps218]) ?_);simp only[Tryz.ntmps218,Tryz.results218,Sx,gC,R1,RD,Nat.reduceAdd,Ry,RQ,go_sem])
|((first|((first|refine zP ((XE [0,1,2,3,4,5,7,9,10] (.forks 6 (.fork 8 (XE [11,12,13,14,15,16,17,18,19] .done) 11 (XE [12,13,14] (.fork 8 (XE [15,16,17,18,19] .done) 15 (XE [8,16,17,18,19] .done)))) 8 (.fork 6 (XE [11,12,13,14,15,16,17,18,19] .done) 11 (XE [6,12,13,14,15,16,17,18,19] .done)) 11 (XE [6,12,13,14] (.fork 8 (XE [15,16,17,18,19] .done) 15 (XE [8,16,17,18,19] .done)))))) ?_|(with_reducible first|refine zR ?_|refine zQ ?_|refine zD ?_|refine zE ?_|refine zG ?_));intro K hK)|((first|refine zA hgc ?_ ?_ ?_ ?_ ?_|refine zA hxc ?_ ?_ ?_ ?_ ?_|refine zA hoc ?_ ?_ ?_ ?_ ?_|refine zA hn1 ?_ ?_ ?_ ?_ ?_|refine zA hn2 ?_ ?_ ?_ ?_ ?_|refine zA hsp ?_ ?_ ?_ ?_ ?_);(focus exact rfl);(focus exact rfl);iterate 2 (focus((try simp(disch:=omega) only[go_sem,aa,o5,e1,g3',hn2',hl2,tk2,XG.rgetD,bt,XG.rset,az,TE])<;>(try omega)<;>fail)))|((first|refine zN hcp rfl ?_ ?_|refine zX hgc rfl ?_ ?_|refine zX hxc rfl ?_ ?_|refine zX hoc rfl ?_ ?_|refine zX hsp rfl ?_ ?_|refine zY hcp ?_ ?_);(focus((try simp(disch:=omega) only[go_sem,aa,o5,e1,g3',hn2',hl2,tk2,XG.rgetD,bt,XG.rset,az,TE])<;>(try omega)<;>fail)))|((first|refine zX hn1 rfl ?_ ?_);(focus((try simp(disch:=omega) only[go_sem,aa,o5,e1,g3',hn2',hl2,tk2,XG.rgetD,bt,XG.rset,az,TE])<;>(try omega)<;>fail)))|((first|refine zX hn2 rfl ?_ ?_);(focus((try simp(disch:=omega) only[go_sem,aa,o5,e1,g3',hn2',hl2,tk2,XG.rgetD,bt,XG.rset,az,TE])<;>(try omega)<;>fail)))|(refine aend_in (v:=?_) hKk (by first|exact .inl rfl|exact .inr rfl) ?_ ?_ ?_;rotate_left;(focus((try simp(disch:=omega) only[go_sem,aa,o5,e1,g3',hn2',hl2,tk2,XG.rgetD,bt,XG.rset,az,TE])<;>(try omega)<;>fail));(focus((try simp(disch:=omega) only[go_sem,aa,o5,e1,g3',hn2',hl2,tk2,XG.rgetD,bt,XG.rset,az,TE])<;>(first|done|exact rfl)));clear hKk Kk))<;>(try simp(disch:=omega) only[go_sem,aa,o5,e1,g3',hn2',hl2,tk2,XG.rgetD,bt,XG.rset,az,TE])<;>(repeat' with_reducible refine Sg ?_ ?_)<;>(try(with_reducible refine hK _ ?_;clear hK K)))
|omega)
 all_goals
  refine WQ (ι:=Nat) (fun k=>k≤t.nodes.length∧∀ j,j<k→dM (ns2.getD j default)=false) (fun k=>t.nodes.length-k) [4,7,15,16,404,405] (fun k=>[(406,I k)]) (fun k=>[.cells [.d (.int .i64 t.zxid),.d (.sl 9 (t.nodes.map XG.row)),.d (.sl 1 (t.sessions.map a8))],.cells [I x.zxid,I 5,I x.session,S x.path,S x.data,I x.version,I x.owner],.cells [I 0,.d (.sc (.slice none 0 0)),.d (.sc (.slice none 0 0))],.rows 9 (ns2.map XG.row),.rows 1 (t.sessions.map a8),.cells [I x.zxid,.osl 3 9 0 t.nodes.length,.osl 4 1 0 t.sessions.length],.cells [.osl 9 2 0 1],.cells [.clo 220 [] [.ptr 5 0,.ptr 1 0,.ptr 6 0]],.rows 2 [[.int .i64 3,.str x.path]],.rows 2 [[.int .i64 3,.str x.path]]]) 0 ?_ ?_ ?_
  ·exact⟨by omega,fun j hj=>by omega⟩
  ·simp only[go_sem];exact zSm X5
  intro k ⟨hk,hk2⟩;simp only[go_sem]
  (repeat' first
|(with_reducible refine AR.f ?_)
|refine bI (by decide) ?_
|(with_reducible refine AWP.cond rfl ?_ ?_<;>intro hc<;>(try simp only[hcs,RN,RY,RZ] at hc))
|(refine bL fun Kk hKk=>(cm df Tryz.func218 rfl (by kernel_rfl) (by simp[Tryz.ntmps218]) ?_);simp only[Tryz.ntmps218,Tryz.results218,Sx,gC,R1,RD,Nat.reduceAdd,Ry,RQ,go_sem])
|((first|((first|refine zP ((XE [0] (.fork 1 (XE [2,3,4] .done) 2 (XE [1,3,4] .done)))) ?_|(with_reducible first|refine zR ?_|refine zQ ?_|refine zD ?_|refine zE ?_|refine zG ?_));intro K hK)|(refine aend_in (v:=?_) hKk (by first|exact .inl rfl|exact .inr rfl) ?_ ?_ ?_;rotate_left;(focus((try simp(disch:=omega) only[go_sem,aa,XG.rgetD])<;>(try omega)<;>fail));(focus((try simp(disch:=omega) only[go_sem,aa,XG.rgetD])<;>(first|done|exact rfl)));clear hKk Kk))<;>(try simp(disch:=omega) only[go_sem,aa,XG.rgetD])<;>(repeat' with_reducible refine Sg ?_ ?_)<;>(try(with_reducible refine hK _ ?_;clear hK K)))
|omega)
  ·have hbig:ns2.any dM=true:=TN.2 ⟨_,aZ ns2 k (by omega),by unfold dM;rw[RB];omega⟩
   rw[cU h0 (by rw[hdone];exact hbig)];exact zEe dfl
  ·refine⟨k+1,⟨by omega,fun j hj=>?_⟩,by omega,?_⟩
   ·by_cases e:j=k
    ·subst e;unfold dM;rw[RT];omega
    ·exact hk2 j (by omega)
   exact zFr [0,1,2,3,4,5,6,7,8,9] X5
  all_goals
   have hbig:=(nC (l:=ns2) (fun j hj=>hk2 j (by omega))).1;rw[eA h0 (by rw[hdone];exact hbig),hdone];exact zEe (zx @I.eq_1 (zx @S.eq_1 @tk2))
theorem Rd:Pls [XE [0,2,3] (.fork 1 (XE [4,5,6,7] .done) 4 (XE [1,5,6,7] .done)),XE [0,1,2,3,4,5,6,7,8,9,10,11,12,13,14,16,17] (.fork 15 (XE [18,19,20,21,22,23,24] .done) 18 (XE [19,20] (.fork 15 (XE [21,22,23,24] .done) 21 (XE [15,22,23,24] .done))))]:=pls _
attribute [go_sem] Tryz.ntmps218 Tryz.results218 Tryz.ntmps220 Tryz.results220
def lM(l:List XG)(key:List UInt8):List XG:=l.filter fun f=>decide (f.path<key)
def iw(l:List XG)(key:List UInt8):List XG:=l.filter fun f=>decide (key<f.path)
theorem tF(l:List XG)(key:List UInt8)(k:Nat)(h:k<l.length):lM (l.take (k+1)) key=if(l.getD k default).path<key then lM (l.take k) key++[l.getD k default] else lM (l.take k) key:=by
 unfold lM;rw[aN l k h,Sn]
 by_cases e:(l.getD k default).path<key
 ·rw[Rx e,SQ (by simpa using e)];rfl
 ·rw[Rw e,Sr (by simpa using e),SR,R5]
theorem vC(l:List XG)(key:List UInt8)(k:Nat)(h:k<l.length):iw (l.take (k+1)) key=if key<(l.getD k default).path then iw (l.take k) key++[l.getD k default] else iw (l.take k) key:=by
 unfold iw;rw[aN l k h,Sn]
 by_cases e:key<(l.getD k default).path
 ·rw[Rx e,SQ (by simpa using e)];rfl
 ·rw[Rw e,Sr (by simpa using e),SR,R5]
theorem Gv{l:List XG}{key:List UInt8}(hr:aE (pathsN l))(h:¬ key∈pathsN l)(n:XG):lM l key++n::iw l key=l.insertIdx (place (pathsN l) key) n:=by
 have hp:=fc (pathsN l) key;have lo:∀ j,j<place (pathsN l) key→(l.getD j default).path<key:=fun j hj=>by have:=T4 (p:=fun x=>!decide (x<key)) (xs:=pathsN l) hj;rw[←cV XG.path l j default];show(pathsN l).getD j []<key;rw[Ru,Rv (by omega)];simpa using this
 have hi:∀ j,place (pathsN l) key≤j→j<l.length→key<(l.getD j default).path:=fun j h1 h2=>by
  have a:¬ (pathsN l).getD (place (pathsN l) key) []<key:=by have:=Un (p:=fun x=>!decide (x<key)) (xs:=pathsN l) (w:=(by rw[ao];unfold place at h1;omega));rw[SN,RT] at this;rw[Ru,Rv (by rw[ao];omega)];exact this
  have b:key<(pathsN l).getD (place (pathsN l) key) []:=gL a fun e=>h (by rw[←e];exact bs _ _ (by rw[ao];omega))
  rw[←cV XG.path l j default];show key<(pathsN l).getD j []
  by_cases e:place (pathsN l) key=j
  ·rw[←e];exact b
  ·exact S9 b (aV hr (by omega) (by rw[ao];exact h2))
 rw[ao] at hp;generalize place (pathsN l) key=p at *
 have gd (j:Nat) (hj:j<l.length):l.getD j default=l[j]:=by rw[Ru,Rv hj];rfl
 have e1:lM l key=l.take p:=by
  unfold lM
  conv=>lhs;rw[←SA p l]
  rw[Sn]
  have a1:(l.take p).filter (fun f=>decide (f.path<key))=l.take p:=by
   rw[SI];intro f hf;obtain⟨j,hj,rfl⟩:=SF.1 hf
   have:=lo j (by omega);rw[gd j (by omega)] at this;simpa using this
  have a2:(l.drop p).filter (fun f=>decide (f.path<key))=[]:=by
   rw[Tu];intro f hf;obtain⟨j,hj,rfl⟩:=S2.1 hf
   have:=hi (p+j) (by omega) (by omega);rw[gd _ (by omega)] at this;rw[RB];exact fun h2=>Sk _ (S9 this h2)
  rw[a1,a2,R5]
 have e2:iw l key=l.drop p:=by
  unfold iw
  conv=>lhs;rw[←SA p l]
  rw[Sn]
  have a1:(l.drop p).filter (fun f=>decide (key<f.path))=l.drop p:=by
   rw[SI];intro f hf;obtain⟨j,hj,rfl⟩:=S2.1 hf
   have:=hi (p+j) (by omega) (by omega);rw[gd _ (by omega)] at this;simpa using this
  have a2:(l.take p).filter (fun f=>decide (key<f.path))=[]:=by
   rw[Tu];intro f hf;obtain⟨j,hj,rfl⟩:=SF.1 hf
   have:=lo j (by omega);rw[gd _ (by omega)] at this;rw[RB];exact fun h2=>Sk _ (S9 this h2)
  rw[a1,a2,Sp]
 rw[e1,e2,cT _ _ _ hp]
theorem K2{t:XI}{x:ATxn}(h:bv t x=0)(o:x.op=3):(t.nodes.getD (place (pathsN t.nodes) (dirP x.path)) default).stat.owner=0∧(x.owner=0∨x.owner=x.session):=by
 obtain⟨g1,g2,g3,g4,g5,g6,g7,g8⟩:=cp h;obtain⟨m1,m2,m3⟩:=g6 o;unfold bv at h;rw[Rw (by simp[g1]),Rw (fun h=>h g2),Rw (by omega),Rw (by omega),Rw (fun h=>h (g5 (by omega))),Rx o] at h;unfold lH at h;rw[Rw (fun h=>m1 (fg.1 h)),Rw (fun h=>h (fg.2 m2))] at h;have e:(aw t (splitP x.path).1.1).1=t.nodes.getD (place (pathsN t.nodes) (dirP x.path)) default:=by show(aw t (dirP x.path)).1=_;unfold aw;rw[Rx m2];rfl
 rw[e] at h;split at h
 ·cases h
 ·rename_i q1
  split at h
  ·cases h
  ·rename_i q2;exact⟨by omega,by omega⟩
theorem yw(t:XI)(x:ATxn)(hw:t.wf)(hps:∀ n,n∈t.nodes→n.path.length≤1048576)(hz:okI x.zxid)(hp:x.path.length≤1048576)(hd:okS x.data)(h0:bv t x=0)(o3:x.op=3):ab Tryz.prog [] 157 [t.av,x.av] (ret (.tup [(ah t x).1.av,.d (.sl 2 ((ah t x).2.1.map XL.row)),I (ah t x).2.2])):=by
 obtain⟨g1,g2,g3,g4,g5,g6,g7,g8⟩:=cp h0;obtain⟨h1,h2⟩:t.nodes.length*88≤140737488351232∧t.sessions.length*8≤140737488351232:=⟨hw.2.1.1,hw.2.2.1⟩;have hgc:=(cy t hw hps).re (congrArg B g1);have hxc:=(cZ x hz hp hd).re (congrArg I g2);have hcp:=mJ t h1 h2;have h400:t.nodes.length≤400:=(cr g1).2.1;have hr:aE (pathsN t.nodes):=aF g1;have hsp:=bC x.path hp;have e1:(splitP x.path).1.1=dirP x.path:=rfl;have g3':¬ x.zxid≤t.zxid:=by omega
 have hoc:=(isOpen_c t x.session h2).re (congrArg B (decide_eq_true (g5 (by omega))));obtain⟨m1,m2,hlt⟩:=g6 o3;have hn1:=Md t.zxid t.nodes t.sessions x.path h1 hr m1;have hn2:=lj t.zxid t.nodes t.sessions (dirP x.path) h1 hr m2;have hq0:=(ag hr m2).1;rw[ao] at hq0;have hlk:=K2 h0 o3;obtain⟨k1,k2⟩:=hlk;refine zJ Tryz.func157 Tryz.ntmps157 Tryz.results157 ?_;simp only[go_sem]
 (refine zW qw (zc hgc (zc hxc (zc hoc (zc hn1 (z4 hn2 hsp hcp (ic Tryz.func218)))))) (zx @o3 (zx @e1 @g3')) (z1 ?_)<;>(repeat with_reducible intro hc))
 refine WR (WT 30 9 rfl) ?_;simp only[go_sem];refine WQ (ι:=Nat) (fun k=>k≤t.nodes.length) (fun k=>t.nodes.length-k) [3,4,7,15,16,17,29,319,320] (fun k=>[(321,I k),(30,.osl 9 9 0 (lM (t.nodes.take k) x.path).length)]) (fun k=>[.cells [.d (.int .i64 t.zxid),.d (.sl 9 (t.nodes.map XG.row)),.d (.sl 1 (t.sessions.map a8))],.cells [I x.zxid,I 3,I x.session,S x.path,S x.data,I x.version,I x.owner],.cells [I 0,.d (.sc (.slice none 0 0)),.d (.sc (.slice none 0 0))],.rows 9 (t.nodes.map XG.row),.rows 1 (t.sessions.map a8),.cells [I x.zxid,.osl 3 9 0 t.nodes.length,.osl 4 1 0 t.sessions.length],.cells [.d (.sc (.slice none 0 0))],.cells [.clo 220 [] [.ptr 5 0,.ptr 1 0,.ptr 6 0]],.cells [S x.path,S x.data,I x.zxid,I x.zxid,I x.zxid,I 0,I 0,I x.owner,I 0],.rows 9 ((lM (t.nodes.take k) x.path).map XG.row)]) 0 ?_ ?_ ?_
 ·omega
 ·simp only[go_sem,lM,SR];(refine ay.same ?_;simp(disch:=omega) only[go_sem,aa,Si])
 intro k hk;have hol:(lM (t.nodes.take k) x.path).length≤k:=RW (SK _ _) (S5 _ _);simp only[go_sem]
 by_cases hkk:k<t.nodes.length
 ·(refine zW qw zn (zx @XG.rgetD (zx @XG.rsnoc (zx @ax @ey))) (z2 ?_ ?_)<;>(repeat with_reducible intro hc))
  ·refine⟨k+1,by omega,by omega,?_⟩
   rw[tF _ _ _ hkk,Rx hc]
   (refine zV [0,1,2,3,4,5,6,7,8,12] rfl rfl rfl rfl ?_ ?_<;>simp(disch:=omega) only[go_sem,aa,Si,Ry]<;>(try rfl))
  ·refine⟨k+1,by omega,by omega,?_⟩
   rw[tF _ _ _ hkk,Rw (by simpa using hc)]
   (refine zV [0,1,2,3,4,5,6,7,8,9] rfl rfl rfl rfl ?_ ?_<;>simp(disch:=omega) only[go_sem,aa,Si]<;>(try rfl))
 obtain rfl:k=t.nodes.length:=by omega
 rw[RU] at hol ⊢;have hlm:=Gv hr m1 (mkN x);generalize lM t.nodes x.path=l1 at hol hlm ⊢
 (refine zW qw zn (zx @XG.rsnoc @ax) (z1 ?_)<;>(repeat with_reducible intro hc))
 refine WQ (ι:=Nat) (fun k=>k≤t.nodes.length) (fun k=>t.nodes.length-k) [3,4,7,15,16,17,340,341] (fun k=>[(342,I k),(30,.osl 11 9 0 (l1++(⟨x.path,x.data,⟨x.zxid,x.zxid,x.zxid,0,0,x.owner,0⟩⟩:XG)::iw (t.nodes.take k) x.path).length)]) (fun k=>[.cells [.d (.int .i64 t.zxid),.d (.sl 9 (t.nodes.map XG.row)),.d (.sl 1 (t.sessions.map a8))],.cells [I x.zxid,I 3,I x.session,S x.path,S x.data,I x.version,I x.owner],.cells [I 0,.d (.sc (.slice none 0 0)),.d (.sc (.slice none 0 0))],.rows 9 (t.nodes.map XG.row),.rows 1 (t.sessions.map a8),.cells [I x.zxid,.osl 3 9 0 t.nodes.length,.osl 4 1 0 t.sessions.length],.cells [.d (.sc (.slice none 0 0))],.cells [.clo 220 [] [.ptr 5 0,.ptr 1 0,.ptr 6 0]],.cells [S x.path,S x.data,I x.zxid,I x.zxid,I x.zxid,I 0,I 0,I x.owner,I 0],.dead,.rows 9 [[.str x.path,.str x.data,.int .i64 x.zxid,.int .i64 x.zxid,.int .i64 x.zxid,.int .i64 0,.int .i64 0,.int .i64 x.owner,.int .i64 0]],.rows 9 ((l1++(⟨x.path,x.data,⟨x.zxid,x.zxid,x.zxid,0,0,x.owner,0⟩⟩:XG)::iw (t.nodes.take k) x.path).map XG.row)]) 0 ?_ ?_ ?_
 ·omega
 ·simp only[go_sem,iw,SR,Ry,RD,R1];(refine ay.same ?_;simp(disch:=omega) only[go_sem,aa,Si])
 intro k hk;have hol2:(iw (t.nodes.take k) x.path).length≤k:=RW (SK _ _) (S5 _ _);have hLl:(l1++(⟨x.path,x.data,⟨x.zxid,x.zxid,x.zxid,0,0,x.owner,0⟩⟩:XG)::iw (t.nodes.take k) x.path).length≤1000:=by rw[Ry,RD];omega
 generalize hL:(l1++(⟨x.path,x.data,⟨x.zxid,x.zxid,x.zxid,0,0,x.owner,0⟩⟩:XG)::iw (t.nodes.take k) x.path)=L at hLl ⊢;simp only[go_sem]
 by_cases hkk:k<t.nodes.length
 ·(refine zW qw zn (zx @XG.rgetD (zx @XG.rsnoc (zx @ax @ey))) (z2 ?_ ?_)<;>(repeat with_reducible intro hc))
  ·refine⟨k+1,by omega,by omega,?_⟩
   have hn:l1++(⟨x.path,x.data,⟨x.zxid,x.zxid,x.zxid,0,0,x.owner,0⟩⟩:XG)::iw (t.nodes.take (k+1)) x.path=L++[t.nodes.getD k default]:=by rw[vC _ _ _ hkk,Rx (gL hc.1 hc.2),←hL];simp
   have hnl:l1.length+((iw (t.nodes.take (k+1)) x.path).length+1)=L.length+1:=by have:=congrArg List.length hn;simpa using this
   rw[hn]
   (refine zV [0,1,2,3,4,5,6,7,8,9,10,14] rfl rfl rfl rfl ?_ ?_<;>simp(disch:=omega) only[go_sem,aa,Si,Ry,hnl]<;>(try rfl))
  ·refine⟨k+1,by omega,by omega,?_⟩
   have hnc:¬ x.path<(t.nodes.getD k default).path:=fun h=>by
    rcases hc with h2|h2
    ·exact Sk _ (S9 h h2)
    ·rw[h2] at h;exact Sk _ h
   rw[vC _ _ _ hkk,Rw hnc,hL];have hnl:l1.length+((iw (t.nodes.take k) x.path).length+1)=L.length:=by have:=congrArg List.length hL;simpa using this
   (refine zV [0,1,2,3,4,5,6,7,8,9,10,11] rfl rfl rfl rfl ?_ ?_<;>simp(disch:=omega) only[go_sem,aa,Si,hnl]<;>(try rfl))
 obtain rfl:k=t.nodes.length:=by omega
 rw[RU] at hL hol2;have hLi:t.nodes.insertIdx (place (pathsN t.nodes) x.path) (mkN x)=L:=by rw[←hL,←hlm];rfl
 clear hL hlm;have hpl2:place (pathsN t.nodes) x.path≤t.nodes.length:=by have:=fc (pathsN t.nodes) x.path;rwa[ao] at this
 have hdone:(cG t x)=(⟨x.zxid,pP t.nodes x,t.sessions⟩,[⟨1,x.path⟩,⟨4,dirP x.path⟩]):=by unfold cG;rw[Rw (by omega),Rw (by omega),Rx o3]
 have hl1:L.length=t.nodes.length+1:=by rw[←hLi,dB _ _ _ hpl2]
 have hp1:pathsN L=(pathsN t.nodes).insertIdx (place (pathsN t.nodes) x.path) x.path:=by rw[←hLi,lK];rfl
 have hr1:aE (pathsN L):=by rw[hp1];exact nL hr m1
 have hm1:dirP x.path∈pathsN L:=by rw[hp1,yj (by rw[ao];exact hpl2)];exact .inr m2
 have hq:=(ag hr1 hm1).1;rw[ao] at hq;have hadd:pP t.nodes x=L.set (place (pathsN L) (dirP x.path)) (kidF 1 x.zxid (L.getD (place (pathsN L) (dirP x.path)) default)):=by unfold pP kD;rw[hLi,Rx hm1]
 have hf2:=lj x.zxid L t.sessions (dirP x.path) (by omega) hr1 hm1;rw[hadd] at hdone;generalize hn2':L.set (place (pathsN L) (dirP x.path)) (kidF 1 x.zxid (L.getD (place (pathsN L) (dirP x.path)) default))=ns2 at hdone;have hl2:ns2.length=L.length:=by rw[←hn2',RQ]
 unfold kidF at hn2';have tk2:List.take L.length (ns2.map XG.row)=ns2.map XG.row:=Rz (by rw[RC];omega)
 (refine zW qw (z4 Rd (ic Tryz.func220) hsp hf2) (zx @e1 (zx @hn2' (zx @hl2 (zx @tk2 (zx @XG.rgetD (zx @bt (zx @XG.rset (zx @az (zx @List.set_set.{0} @ax))))))))) (z1 ?_)<;>(repeat with_reducible intro hc))
 all_goals
  refine WQ (ι:=Nat) (fun k=>k≤L.length∧∀ j,j<k→dM (ns2.getD j default)=false) (fun k=>L.length-k) [4,7,15,16,404,405] (fun k=>[(406,I k)]) (fun k=>[.cells [.d (.int .i64 t.zxid),.d (.sl 9 (t.nodes.map XG.row)),.d (.sl 1 (t.sessions.map a8))],.cells [I x.zxid,I 3,I x.session,S x.path,S x.data,I x.version,I x.owner],.cells [I 0,.d (.sc (.slice none 0 0)),.d (.sc (.slice none 0 0))],.rows 9 (t.nodes.map XG.row),.rows 1 (t.sessions.map a8),.cells [I x.zxid,.osl 11 9 0 L.length,.osl 4 1 0 t.sessions.length],.cells [.osl 15 2 0 2],.cells [.clo 220 [] [.ptr 5 0,.ptr 1 0,.ptr 6 0]],.cells [S x.path,S x.data,I x.zxid,I x.zxid,I x.zxid,I 0,I 0,I x.owner,I 0],.dead,.rows 9 [[.str x.path,.str x.data,.int .i64 x.zxid,.int .i64 x.zxid,.int .i64 x.zxid,.int .i64 0,.int .i64 0,.int .i64 x.owner,.int .i64 0]],.rows 9 (ns2.map XG.row),.rows 2 [[.int .i64 1,.str x.path]],.dead,.rows 2 [[.int .i64 4,.str (dirP x.path)]],.rows 2 [[.int .i64 1,.str x.path],[.int .i64 4,.str (dirP x.path)]]]) 0 ?_ ?_ ?_
  ·exact⟨by omega,fun j hj=>by omega⟩
  ·simp only[go_sem];(refine ay.same ?_;simp(disch:=omega) only[go_sem,aa,Si])
  intro k ⟨hk,hk2⟩;simp only[go_sem]
  (repeat' first
|(with_reducible refine AR.f ?_)
|(with_reducible refine AWP.cond rfl ?_ ?_<;>intro hc<;>(try simp only[hcs,RN,RY,RZ] at hc))
|(refine bL fun Kk hKk=>(cm df Tryz.func218 rfl (by kernel_rfl) (by simp[Tryz.ntmps218]) ?_);simp only[Tryz.ntmps218,Tryz.results218,Sx,gC,R1,RD,Nat.reduceAdd,Ry,RQ,go_sem])
|((first|((first|refine zP ((XE [0] (.fork 1 (XE [2,3,4] .done) 2 (XE [1,3,4] .done)))) ?_|(with_reducible first|refine zR ?_));intro K hK)|(refine aend_in (v:=?_) hKk (by first|exact .inl rfl|exact .inr rfl) ?_ ?_ ?_;rotate_left;(focus((try simp(disch:=omega) only[go_sem,aa,XG.rgetD])<;>(try omega)<;>fail));(focus((try simp(disch:=omega) only[go_sem,aa,XG.rgetD])<;>(first|done|exact rfl)));clear hKk Kk))<;>(try simp(disch:=omega) only[go_sem,aa,XG.rgetD])<;>(repeat' with_reducible refine Sg ?_ ?_)<;>(try(with_reducible refine hK _ ?_;clear hK K)))
|omega)
  ·have hbig:ns2.any dM=true:=TN.2 ⟨_,aZ ns2 k (by omega),by unfold dM;rw[RB];omega⟩
   rw[cU h0 (by rw[hdone];exact hbig)]
   (refine zF rfl ?_ ?_ ?_ ?_;(iterate 3 (focus((try simp(disch:=omega) only[go_sem,aa,default])<;>(try omega)<;>fail)));(try simp(disch:=omega) only[go_sem,aa,default,I,B,S,zj]))
  ·refine⟨k+1,⟨by omega,fun j hj=>?_⟩,by omega,?_⟩
   ·by_cases e:j=k
    ·subst e;unfold dM;rw[RT];omega
    ·exact hk2 j (by omega)
   (refine zV [0,1,2,3,4,5,6,7,8,9,10,11,12,13,14,15] rfl rfl rfl rfl ?_ ?_<;>simp(disch:=omega) only[go_sem,aa,Si]<;>(try rfl))
  all_goals
   have hbig:=(nC (l:=ns2) (fun j hj=>hk2 j (by omega))).1;rw[eA h0 (by rw[hdone];exact hbig),hdone]
   (refine zF rfl ?_ ?_ ?_ ?_;(iterate 3 (focus((try simp(disch:=omega) only[go_sem,aa,I,S,tk2])<;>(try omega)<;>fail)));(try simp(disch:=omega) only[go_sem,aa,I,S,tk2,I,B,S,zj]))
theorem Qm:Pls [XE [0] (.fork 1 (XE [2,3,4] .done) 2 (XE [1,3,4] .done))]:=pls _
attribute [go_sem] Tryz.ntmps218 Tryz.results218
theorem jf(l:List Int)(x:Int):l.map a8++[[.int .i64 x]]=(l++[x]).map a8:=by rw[Sb];rfl
def lU(l:List Int)(key:Int):List Int:=l.filter fun s=>decide (s<key)
def iv(l:List Int)(key:Int):List Int:=l.filter fun s=>decide (key<s)
theorem tY(l:List Int)(key:Int)(k:Nat)(h:k<l.length):lU (l.take (k+1)) key=if l.getD k default<key then lU (l.take k) key++[l.getD k default] else lU (l.take k) key:=by
 unfold lU;rw[aN l k h,Sn]
 by_cases e:l.getD k default<key
 ·rw[Rx e,SQ (by simpa using e)];rfl
 ·rw[Rw e,Sr (by simpa using e),SR,R5]
theorem un(l:List Int)(key:Int)(k:Nat)(h:k<l.length):iv (l.take (k+1)) key=if key<l.getD k default then iv (l.take k) key++[l.getD k default] else iv (l.take k) key:=by
 unfold iv;rw[aN l k h,Sn]
 by_cases e:key<l.getD k default
 ·rw[Rx e,SQ (by simpa using e)];rfl
 ·rw[Rw e,Sr (by simpa using e),SR,R5]
theorem vz{l:List Int}{key:Int}(hr:fy l)(h:¬ key∈l):lU l key++key::iv l key=l.insertIdx (bf l key) key:=by
 have hp:bf l key≤l.length:=Ts;have gd (j:Nat) (hj:j<l.length):l.getD j default=l[j]:=by rw[Ru,Rv hj];rfl
 have lo:∀ j,j<bf l key→l.getD j default<key:=fun j hj=>by have:=T4 (p:=fun x=>!decide (x<key)) (xs:=l) hj;rw[gd j (by omega)];simpa using this
 have hi:∀ j,bf l key≤j→j<l.length→key<l.getD j default:=fun j h1 h2=>by
  have a:¬ l.getD (bf l key) default<key:=by have:=Un (p:=fun x=>!decide (x<key)) (xs:=l) (w:=(by unfold bf at h1;omega));rw[SN,RT] at this;rw[gd _ (by omega)];exact this
  have c:l.getD (bf l key) default≠key:=fun e=>h (by rw[←e];exact bs _ _ (by omega))
  by_cases e:bf l key=j
  ·rw[←e];omega
  ·have:=fh hr (i:=bf l key) (j:=j) (by omega) h2;omega
 generalize bf l key=p at *
 have e1:lU l key=l.take p:=by
  unfold lU
  conv=>lhs;rw[←SA p l]
  rw[Sn]
  have a1:(l.take p).filter (fun s=>decide (s<key))=l.take p:=by
   rw[SI];intro f hf;obtain⟨j,hj,rfl⟩:=SF.1 hf
   have:=lo j (by omega);rw[gd j (by omega)] at this;simpa using this
  have a2:(l.drop p).filter (fun s=>decide (s<key))=[]:=by
   rw[Tu];intro f hf;obtain⟨j,hj,rfl⟩:=S2.1 hf
   have:=hi (p+j) (by omega) (by omega);rw[gd _ (by omega)] at this;rw[RB];omega
  rw[a1,a2,R5]
 have e2:iv l key=l.drop p:=by
  unfold iv
  conv=>lhs;rw[←SA p l]
  rw[Sn]
  have a1:(l.drop p).filter (fun s=>decide (key<s))=l.drop p:=by
   rw[SI];intro f hf;obtain⟨j,hj,rfl⟩:=S2.1 hf
   have:=hi (p+j) (by omega) (by omega);rw[gd _ (by omega)] at this;simpa using this
  have a2:(l.take p).filter (fun s=>decide (key<s))=[]:=by
   rw[Tu];intro f hf;obtain⟨j,hj,rfl⟩:=SF.1 hf
   have:=lo j (by omega);rw[gd _ (by omega)] at this;rw[RB];omega
  rw[a1,a2,Sp]
 rw[e1,e2,cT _ _ _ hp]
theorem yh(t:XI)(x:ATxn)(hw:t.wf)(hps:∀ n,n∈t.nodes→n.path.length≤1048576)(hz:okI x.zxid)(hp:x.path.length≤1048576)(hd:okS x.data)(h0:bv t x=0)(o1:x.op=1):ab Tryz.prog [] 157 [t.av,x.av] (ret (.tup [(ah t x).1.av,.d (.sl 2 ((ah t x).2.1.map XL.row)),I (ah t x).2.2])):=by
 obtain⟨g1,g2,g3,g4,g5,g6,g7,g8⟩:=cp h0;obtain⟨h1,h2⟩:t.nodes.length*88≤140737488351232∧t.sessions.length*8≤140737488351232:=⟨hw.2.1.1,hw.2.2.1⟩;have hgc:=(cy t hw hps).re (congrArg B g1);have hxc:=(cZ x hz hp hd).re (congrArg I g2);have hcp:=mJ t h1 h2;have h400:t.nodes.length≤400:=(cr g1).2.1;have hr:aE (pathsN t.nodes):=aF g1;have hsp:=bC x.path hp;have e1:(splitP x.path).1.1=dirP x.path:=rfl;have g3':¬ x.zxid≤t.zxid:=by omega
 have m1:=g4 o1;have hoc:=(isOpen_c t x.session h2).re (congrArg B (RM m1));have hn1:=kT t.zxid t.nodes t.sessions x.path h1 hr;have hn2:=kT t.zxid t.nodes t.sessions (dirP x.path) h1 hr;have hri:fy t.sessions:=fV g1;have hss:t.sessions.length≤2147483647:=mc g1;have hdone:(cG t x)=(⟨x.zxid,t.nodes,t.sessions.insertIdx (bf t.sessions x.session) x.session⟩,[]):=by unfold cG;rw[Rx o1]
 refine zJ Tryz.func157 Tryz.ntmps157 Tryz.results157 ?_;simp only[go_sem]
 (refine zW qw (zc hgc (zc hxc (zc hoc (zc hn1 (z4 hn2 hsp hcp (ic Tryz.func218)))))) (zx @o1 (zx @e1 @g3')) (z1 ?_)<;>(repeat with_reducible intro hc))
 refine WR (WT 19 1 rfl) ?_;simp only[go_sem];refine WQ (ι:=Nat) (fun k=>k≤t.sessions.length) (fun k=>t.sessions.length-k) [2,3,4,7,15,16,226,227] (fun k=>[(228,I k),(19,.osl 8 1 0 (lU (t.sessions.take k) x.session).length)]) (fun k=>[.cells [.d (.int .i64 t.zxid),.d (.sl 9 (t.nodes.map XG.row)),.d (.sl 1 (t.sessions.map a8))],.cells [I x.zxid,I 1,I x.session,S x.path,S x.data,I x.version,I x.owner],.cells [I 0,.d (.sc (.slice none 0 0)),.d (.sc (.slice none 0 0))],.rows 9 (t.nodes.map XG.row),.rows 1 (t.sessions.map a8),.cells [I x.zxid,.osl 3 9 0 t.nodes.length,.osl 4 1 0 t.sessions.length],.cells [.d (.sc (.slice none 0 0))],.cells [.clo 220 [] [.ptr 5 0,.ptr 1 0,.ptr 6 0]],.rows 1 ((lU (t.sessions.take k) x.session).map a8)]) 0 ?_ ?_ ?_
 ·omega
 ·simp only[go_sem,lU,SR];exact zSm X5
 intro k hk;have hol:(lU (t.sessions.take k) x.session).length≤k:=RW (SK _ _) (S5 _ _);simp only[go_sem]
 by_cases hkk:k<t.sessions.length
 ·(refine zW qw zn (zx @jf @ax) (z2 ?_ ?_)<;>(repeat with_reducible intro hc))
  ·refine⟨k+1,by omega,by omega,?_⟩
   rw[tY _ _ _ hkk,Rx hc];exact zFr [0,1,2,3,4,5,6,7,10] @List.length_append.{0}
  ·refine⟨k+1,by omega,by omega,?_⟩
   rw[tY _ _ _ hkk,Rw (by omega)];exact zFr [0,1,2,3,4,5,6,7,8] X5
 obtain rfl:k=t.sessions.length:=by omega
 rw[RU] at hol ⊢;have hlm:=vz hri m1;generalize lU t.sessions x.session=l1 at hol hlm ⊢
 (refine zW qw zn (zx @jf @ax) (z1 ?_)<;>(repeat with_reducible intro hc))
 refine WQ (ι:=Nat) (fun k=>k≤t.sessions.length) (fun k=>t.sessions.length-k) [3,4,7,15,16,247,248] (fun k=>[(249,I k),(19,.osl 10 1 0 (l1++x.session::iv (t.sessions.take k) x.session).length)]) (fun k=>[.cells [.d (.int .i64 t.zxid),.d (.sl 9 (t.nodes.map XG.row)),.d (.sl 1 (t.sessions.map a8))],.cells [I x.zxid,I 1,I x.session,S x.path,S x.data,I x.version,I x.owner],.cells [I 0,.d (.sc (.slice none 0 0)),.d (.sc (.slice none 0 0))],.rows 9 (t.nodes.map XG.row),.rows 1 (t.sessions.map a8),.cells [I x.zxid,.osl 3 9 0 t.nodes.length,.osl 4 1 0 t.sessions.length],.cells [.d (.sc (.slice none 0 0))],.cells [.clo 220 [] [.ptr 5 0,.ptr 1 0,.ptr 6 0]],.dead,.rows 1 [[.int .i64 x.session]],.rows 1 ((l1++x.session::iv (t.sessions.take k) x.session).map a8)]) 0 ?_ ?_ ?_
 ·omega
 ·simp only[go_sem,iv,SR,Ry,RD,R1];exact zSm X5
 intro k hk;have hol2:(iv (t.sessions.take k) x.session).length≤k:=RW (SK _ _) (S5 _ _);have hLl:(l1++x.session::iv (t.sessions.take k) x.session).length≤2*t.sessions.length+1:=by rw[Ry,RD];omega
 generalize hL:(l1++x.session::iv (t.sessions.take k) x.session)=L at hLl ⊢;simp only[go_sem]
 by_cases hkk:k<t.sessions.length
 ·(refine zW qw zn (zx @jf @ax) (z2 ?_ ?_)<;>(repeat with_reducible intro hc))
  ·refine⟨k+1,by omega,by omega,?_⟩
   have hn:l1++x.session::iv (t.sessions.take (k+1)) x.session=L++[t.sessions.getD k default]:=by rw[un _ _ _ hkk,Rx hc,←hL];simp
   have hnl:l1.length+((iv (t.sessions.take (k+1)) x.session).length+1)=L.length+1:=by have:=congrArg List.length hn;simpa using this
   rw[hn];exact zFr [0,1,2,3,4,5,6,7,8,9,12] (zx @List.length_append.{0} @hnl)
  ·refine⟨k+1,by omega,by omega,?_⟩
   have hnl:l1.length+((iv (t.sessions.take k) x.session).length+1)=L.length:=by have:=congrArg List.length hL;simpa using this
   rw[un _ _ _ hkk,Rw (by omega),hL];exact zFr [0,1,2,3,4,5,6,7,8,9,10] @hnl
 obtain rfl:k=t.sessions.length:=by omega
 rw[RU] at hL hol2;rw[←hlm,hL] at hdone;clear hL hlm
 (refine zW qw zn X5 (z1 ?_)<;>(repeat with_reducible intro hc))
 refine WQ (ι:=Nat) (fun k=>k≤t.nodes.length∧∀ j,j<k→dM (t.nodes.getD j default)=false) (fun k=>t.nodes.length-k) [4,7,15,16,404,405] (fun k=>[(406,I k)]) (fun k=>[.cells [.d (.int .i64 t.zxid),.d (.sl 9 (t.nodes.map XG.row)),.d (.sl 1 (t.sessions.map a8))],.cells [I x.zxid,I 1,I x.session,S x.path,S x.data,I x.version,I x.owner],.cells [I 0,.d (.sc (.slice none 0 0)),.d (.sc (.slice none 0 0))],.rows 9 (t.nodes.map XG.row),.rows 1 (t.sessions.map a8),.cells [I x.zxid,.osl 3 9 0 t.nodes.length,.osl 10 1 0 L.length],.cells [.d (.sc (.slice none 0 0))],.cells [.clo 220 [] [.ptr 5 0,.ptr 1 0,.ptr 6 0]],.dead,.rows 1 [[.int .i64 x.session]],.rows 1 (L.map a8)]) 0 ?_ ?_ ?_
 ·exact⟨by omega,fun j hj=>by omega⟩
 ·simp only[go_sem];exact zSm X5
 intro k ⟨hk,hk2⟩;simp only[go_sem]
 (refine zW qw (z2 Qm (ic Tryz.func218)) @XG.rgetD (z3 ?_ ?_ ?_)<;>(repeat with_reducible intro hc))
 ·have hbig:t.nodes.any dM=true:=TN.2 ⟨_,aZ t.nodes k (by omega),by unfold dM;rw[RB];omega⟩
  rw[cU h0 (by rw[hdone];exact hbig)];exact zEe dfl
 ·refine⟨k+1,⟨by omega,fun j hj=>?_⟩,by omega,?_⟩
  ·by_cases e:j=k
   ·subst e;unfold dM;rw[RT];omega
   ·exact hk2 j (by omega)
  exact zFr [0,1,2,3,4,5,6,7,8,9,10] X5
 all_goals
  have hbig:=(nC (l:=t.nodes) (fun j hj=>hk2 j (by omega))).1;rw[eA h0 (by rw[hdone];exact hbig),hdone];exact zEe (zx @I.eq_1 @S.eq_1)
theorem PS:Pls [XE [0] (.fork 1 (XE [2,3,4] .done) 2 (XE [1,3,4] .done))]:=pls _
attribute [go_sem] Tryz.ntmps218 Tryz.results218
def gY(l:List Int)(key:Int):List Int:=l.filter fun s=>decide (s≠key)
theorem qa(l:List Int)(key:Int)(k:Nat)(h:k<l.length):gY (l.take (k+1)) key=if l.getD k default≠key then gY (l.take k) key++[l.getD k default] else gY (l.take k) key:=by
 unfold gY;rw[aN l k h,Sn]
 by_cases e:l.getD k default≠key
 ·rw[Rx e,SQ (by simpa using e)];rfl
 ·rw[Rw e,Sr (by simpa using e),SR,R5]
theorem C4{l:List Int}{key:Int}(hr:fy l)(h:key∈l):l.getD (bf l key) default=key:=by
 obtain⟨k,hk,e⟩:=List.mem_iff_getElem.1 h;have e2:l.getD k default=key:=by rw[Ru,Rv hk];exact e
 have:bf l key=k:=qR (by omega) (fun j hj=>by rw[←e2];exact fh hr hj hk) (fun _=>by rw[e2];omega);rw[this,e2]
theorem n7{l:List Int}{key:Int}(hr:fy l)(h:key∈l):gY l key=l.eraseIdx (bf l key):=by
 have hpl:bf l key<l.length:=xd hr h;have hpk:l.getD (bf l key) default=key:=C4 hr h;generalize bf l key=p at *
 have hne:∀ j,j<l.length→j≠p→l.getD j default≠key:=fun j hj hjp e=>by
  rcases Tz hjp with h1|h1
  ·have:=fh hr h1 hpl;omega
  ·have:=fh hr h1 hj;omega
 have hs:l=l.take p++l.getD p default::l.drop (p+1):=by rw[Ru,Rv hpl];simp
 have h1:(l.take p).filter (fun f=>decide (f≠key))=l.take p:=by
  rw[SI];intro f hf;obtain⟨j,hj,rfl⟩:=SF.1 hf
  have:=hne j (by omega) (by omega);rw[Ru,Rv (by omega)] at this;simpa using this
 have h2:(l.drop (p+1)).filter (fun f=>decide (f≠key))=l.drop (p+1):=by
  rw[SI];intro f hf;obtain⟨j,hj,rfl⟩:=S2.1 hf
  have:=hne (p+1+j) (by omega) (by omega);rw[Ru,Rv (by omega)] at this;simpa using this
 rw[eQ];unfold gY
 conv=>lhs;rw[hs]
 rw[Sn,Sr (by simp only[hpk];simp),h1,h2]
theorem yb(t:XI)(x:ATxn)(hw:t.wf)(hps:∀ n,n∈t.nodes→n.path.length≤1048576)(hz:okI x.zxid)(hp:x.path.length≤1048576)(hd:okS x.data)(h0:bv t x=0)(o2:x.op=2):ab Tryz.prog [] 157 [t.av,x.av] (ret (.tup [(ah t x).1.av,.d (.sl 2 ((ah t x).2.1.map XL.row)),I (ah t x).2.2])):=by
 obtain⟨g1,g2,g3,g4,g5,g6,g7,g8⟩:=cp h0;obtain⟨h1,h2⟩:t.nodes.length*88≤140737488351232∧t.sessions.length*8≤140737488351232:=⟨hw.2.1.1,hw.2.2.1⟩;have hgc:=(cy t hw hps).re (congrArg B g1);have hxc:=(cZ x hz hp hd).re (congrArg I g2);have hcp:=mJ t h1 h2;have h400:t.nodes.length≤400:=(cr g1).2.1;have hr:aE (pathsN t.nodes):=aF g1;have hsp:=bC x.path hp;have e1:(splitP x.path).1.1=dirP x.path:=rfl;have g3':¬ x.zxid≤t.zxid:=by omega
 have ms:=g5 (by omega);have hoc:=(isOpen_c t x.session h2).re (congrArg B (decide_eq_true ms));have hn1:=kT t.zxid t.nodes t.sessions x.path h1 hr;have hn2:=kT t.zxid t.nodes t.sessions (dirP x.path) h1 hr;have hri:fy t.sessions:=fV g1;have hss:t.sessions.length≤2147483647:=mc g1;have hdone:(cG t x)=(⟨x.zxid,(aQ t x.session x.zxid t.nodes.length).1,t.sessions.eraseIdx (bf t.sessions x.session)⟩,(aQ t x.session x.zxid t.nodes.length).2):=by unfold cG;rw[Rw (by omega),Rx o2]
 refine zJ Tryz.func157 Tryz.ntmps157 Tryz.results157 ?_;simp only[go_sem]
 (refine zW qw (zc hgc (zc hxc (zc hoc (zc hn1 (z4 hn2 hsp hcp (ic Tryz.func218)))))) (zx @o2 (zx @e1 @g3')) (z1 ?_)<;>(repeat with_reducible intro hc))
 refine WR (WT 24 1 rfl) ?_;simp only[go_sem];refine WQ (ι:=Nat) (fun k=>k≤t.sessions.length) (fun k=>t.sessions.length-k) [2,3,4,7,15,16,18,267,268] (fun k=>[(269,I k),(24,.osl 8 1 0 (gY (t.sessions.take k) x.session).length)]) (fun k=>[.cells [.d (.int .i64 t.zxid),.d (.sl 9 (t.nodes.map XG.row)),.d (.sl 1 (t.sessions.map a8))],.cells [I x.zxid,I 2,I x.session,S x.path,S x.data,I x.version,I x.owner],.cells [I 0,.d (.sc (.slice none 0 0)),.d (.sc (.slice none 0 0))],.rows 9 (t.nodes.map XG.row),.rows 1 (t.sessions.map a8),.cells [I x.zxid,.osl 3 9 0 t.nodes.length,.osl 4 1 0 t.sessions.length],.cells [.d (.sc (.slice none 0 0))],.cells [.clo 220 [] [.ptr 5 0,.ptr 1 0,.ptr 6 0]],.rows 1 ((gY (t.sessions.take k) x.session).map a8)]) 0 ?_ ?_ ?_
 ·omega
 ·simp only[go_sem,gY,SR];exact zSm X5
 intro k hk;have hol:(gY (t.sessions.take k) x.session).length≤k:=RW (SK _ _) (S5 _ _);simp only[go_sem]
 by_cases hkk:k<t.sessions.length
 ·(refine zW qw zn (zx @jf @ax) (z2 ?_ ?_)<;>(repeat with_reducible intro hc))
  ·refine⟨k+1,by omega,by omega,?_⟩
   rw[qa _ _ _ hkk,Rx (by omega)];exact zFr [0,1,2,3,4,5,6,7,10] @List.length_append.{0}
  ·refine⟨k+1,by omega,by omega,?_⟩
   rw[qa _ _ _ hkk,Rw (by omega)];exact zFr [0,1,2,3,4,5,6,7,8] X5
 obtain rfl:k=t.sessions.length:=by omega
 rw[RU,n7 hri ms] at hol ⊢;generalize t.sessions.eraseIdx (bf t.sessions x.session)=ss1 at hol hdone ⊢
 (refine zW qw zn (zx @jf @ax) (z1 ?_)<;>(repeat with_reducible intro hc))
 refine WR (W8 6 0 2 rfl rfl) ?_;simp only[go_sem];refine WQ (ι:=Nat) (fun k=>k≤t.nodes.length) (fun k=>t.nodes.length-k) [3,4,7,15,16,18,285,286] (fun k=>[(287,I k)]) (fun k=>[.cells [.d (.int .i64 t.zxid),.d (.sl 9 (t.nodes.map XG.row)),.d (.sl 1 (t.sessions.map a8))],.cells [I x.zxid,I 2,I x.session,S x.path,S x.data,I x.version,I x.owner],.cells [I 0,.d (.sc (.slice none 0 0)),.d (.sc (.slice none 0 0))],.rows 9 ((aQ t x.session x.zxid k).1.map XG.row),.rows 1 (t.sessions.map a8),.cells [I x.zxid,.osl 3 9 0 (aQ t x.session x.zxid k).1.length,.osl 8 1 0 ss1.length],.cells [.osl 9 2 0 (aQ t x.session x.zxid k).2.length],.cells [.clo 220 [] [.ptr 5 0,.ptr 1 0,.ptr 6 0]],.rows 1 (ss1.map a8),.rows 2 ((aQ t x.session x.zxid k).2.map XL.row)]) 0 ?_ ?_ ?_
 ·omega
 ·simp only[go_sem,aQ];exact zSm X5
 intro k hk;have ci:=mF (z:=x.zxid) g1 (dk g2).2.2.1 k hk;have hnext:aQ t x.session x.zxid (k+1)=if(t.nodes.getD k default).stat.owner=x.session then(fx (aQ t x.session x.zxid k).1 (t.nodes.getD k default).path x.zxid,(aQ t x.session x.zxid k).2++eT (t.nodes.getD k default).path) else aQ t x.session x.zxid k:=rfl
 simp only[go_sem]
 by_cases hkk:k<t.nodes.length
 case neg=>
  obtain rfl:k=t.nodes.length:=by omega
  generalize aQ t x.session x.zxid t.nodes.length=cl at ci hdone ⊢;obtain⟨ns2,es⟩:=cl;have hl2:ns2.length≤400:=RW ci.len h400;have helen:es.length≤2*t.nodes.length:=ci.elen;simp only at hdone;simp only[go_sem]
  (refine zW qw zn X5 (z1 ?_)<;>(repeat with_reducible intro hc))
  refine WQ (ι:=Nat) (fun k=>k≤ns2.length∧∀ j,j<k→dM (ns2.getD j default)=false) (fun k=>ns2.length-k) [4,7,15,16,404,405] (fun k=>[(406,I k)]) (fun k=>[.cells [.d (.int .i64 t.zxid),.d (.sl 9 (t.nodes.map XG.row)),.d (.sl 1 (t.sessions.map a8))],.cells [I x.zxid,I 2,I x.session,S x.path,S x.data,I x.version,I x.owner],.cells [I 0,.d (.sc (.slice none 0 0)),.d (.sc (.slice none 0 0))],.rows 9 (ns2.map XG.row),.rows 1 (t.sessions.map a8),.cells [I x.zxid,.osl 3 9 0 ns2.length,.osl 8 1 0 ss1.length],.cells [.osl 9 2 0 es.length],.cells [.clo 220 [] [.ptr 5 0,.ptr 1 0,.ptr 6 0]],.rows 1 (ss1.map a8),.rows 2 (es.map XL.row)]) 0 ?_ ?_ ?_
  ·exact⟨by omega,fun j hj=>by omega⟩
  ·simp only[go_sem];exact zSm X5
  intro k ⟨hk,hk2⟩;simp only[go_sem]
  (refine zW qw (z2 PS (ic Tryz.func218)) @XG.rgetD (z3 ?_ ?_ ?_)<;>(repeat with_reducible intro hc))
  ·have hbig:ns2.any dM=true:=TN.2 ⟨_,aZ ns2 k (by omega),by unfold dM;rw[RB];omega⟩
   rw[cU h0 (by rw[hdone];exact hbig)];exact zEe dfl
  ·refine⟨k+1,⟨by omega,fun j hj=>?_⟩,by omega,?_⟩
   ·by_cases e:j=k
    ·subst e;unfold dM;rw[RT];omega
    ·exact hk2 j (by omega)
   exact zFr [0,1,2,3,4,5,6,7,8,9] X5
  all_goals
   have hbig:=(nC (l:=ns2) (fun j hj=>hk2 j (by omega))).1;rw[eA h0 (by rw[hdone];exact hbig),hdone];exact zEe (zx @I.eq_1 @S.eq_1)
 by_cases how:(t.nodes.getD k default).stat.owner=x.session
 ·rw[Rx how] at hnext
  have hone:=nz (z:=x.zxid) g1 (dk g2).2.2.1 hkk how;have hpb:(t.nodes.getD k default).path.length≤1048576:=hps _ (aZ t.nodes k (by omega));have hm:=ci.rest k (RE _) hkk;have hdir:=ci.dirs k hkk how;have hr:=ci.rises;have hlen:=ci.len;have helen:=ci.elen;clear ci;unfold nd at hone hm hdir;generalize aQ t x.session x.zxid k=cl at hnext hm hdir hr hlen helen;obtain⟨ns,es⟩:=cl;simp only at hnext hm hdir hr hlen helen;generalize hpp:(t.nodes.getD k default).path=p at hnext hm hdir hone hpb;have hgo:=ON x.zxid ns ss1 es x p (by omega) (by omega) (by omega) hpb hr hm hdir hone.2.2.1;rw[o2] at hgo
  (refine zW qw (z1 (ac [5,3,8,6,9,7,1] hgo)) (zx @how (zx @hpp @XG.rgetD)) (z1 ?_)<;>(repeat with_reducible intro hc))
  refine⟨k+1,by omega,by omega,?_⟩;rw[hnext];exact zFr [0,1,2,11,4,5,6,7,8,12] X5
 ·rw[Rw how] at hnext
  (refine zW qw zn @XG.rgetD (z1 ?_)<;>(repeat with_reducible intro hc))
  refine⟨k+1,by omega,by omega,?_⟩;rw[hnext];exact zFr [0,1,2,3,4,5,6,7,8,9] X5
theorem dC(t:XI)(x:ATxn)(hw:t.wf)(hps:∀ n,n∈t.nodes→n.path.length≤1048576)(hz:okI x.zxid)(hp:x.path.length≤1048576)(hd:okS x.data):ab Tryz.prog [] 157 [t.av,x.av] (ret (.tup [(ah t x).1.av,.d (.sl 2 ((ah t x).2.1.map XL.row)),I (ah t x).2.2])):=by
 by_cases h0:bv t x=0
 case neg=>
  rw[mh h0];exact yA t x hw hps hz hp hd h0
 obtain⟨o1,o2,_,_⟩:=dk (cp h0).2.1;rcases(by omega:x.op=1∨x.op=2∨x.op=3∨x.op=4∨x.op=5) with o|o|o|o|o
 ·exact yh t x hw hps hz hp hd h0 o
 ·exact yb t x hw hps hz hp hd h0 o
 ·exact yw t x hw hps hz hp hd h0 o
 ·exact zh t x hw hps hz hp hd h0 o
 ·exact yp t x hw hps hz hp hd h0 o
def okN(n:XG):Prop:=n.wf∧n.path.length≤1048576
def okT(t:XI):Prop:=t.wf∧∀ n,n∈t.nodes→n.path.length≤1048576
theorem uT(z:Int):okI (IntKind.i64.wrap z):=by rw[Ur];unfold okI;omega
theorem Ey{ns:List XG}{p:List UInt8}{m z:Int}(h:∀ n,n∈ns→okN n)(hz:okI z):∀ n,n∈kD ns p m z→okN n:=by
 unfold kD;split
 ·rename_i hm
  intro n hn;rcases S1 hn with a|rfl
  ·exact h n a
  ·by_cases hl:place (pathsN ns) (dirP p)<ns.length
   ·obtain⟨⟨a1,a2,b1,b2,b3,b4,b5,b6,b7⟩,c⟩:=h _ (bs ns default hl)
    exact⟨⟨a1,a2,b1,b2,hz,b4,uT _,b6,uT _⟩,c⟩
   ·rw[V0 (by omega)] at hn
    exact h _ hn
 ·exact h
theorem EL{ns:List XG}{p:List UInt8}{z:Int}(h:∀ n,n∈ns→okN n)(hz:okI z):∀ n,n∈fx ns p z→okN n:=
 Ey (fun n hn=>h n (Tx hn)) hz
theorem qv{t:XI}{s z:Int}(h:∀ n,n∈t.nodes→okN n)(hz:okI z):∀ k n,n∈(aQ t s z k).1→okN n
 |0=>h
 | k+1=>by
   unfold aQ;split
   ·exact EL (qv h hz k) hz
   ·exact qv h hz k
theorem AG{α:Type}{l:List α}{i:Nat}{x y:α}(h:i≤l.length)(hy:y∈l.insertIdx i x):y=x∨y∈l:=(TM h).1 hy
theorem Fc{α:Type}(l:List α)(i:Nat)(x:α)(h:i≤l.length):(l.insertIdx i x).length=l.length+1:=by rw[List.length_insertIdx,Rx h]
theorem N3{t:XI}{x:ATxn}(h:okT t)(hx:x.wf)(hp:x.path.length≤1048576)(h0:bv t x=0):okT (cG t x).1:=by
 obtain⟨g1,g2,g3,g4,g5,g6,g7,g8⟩:=cp h0;obtain⟨⟨w1,⟨w2,w3⟩,w4,w5⟩,hb⟩:=h;obtain⟨x1,x2,x3,x4,x5,x6,x7⟩:=hx;have hN:∀ n,n∈t.nodes→okN n:=fun n hn=>⟨w3 n hn,hb n hn⟩
 have h400:t.nodes.length≤400:=(cr g1).2.1;have hss:=mc g1
 have fin:∀ ns:List XG,∀ ss:List Int,ns.length≤401→ss.length≤2147483648→(∀ n,n∈ns→okN n)→(∀ s,s∈ss→okI s)→okT ⟨x.zxid,ns,ss⟩:=fun ns ss a b c d=>
  ⟨⟨x1,⟨by show ns.length*88≤_;omega,fun n hn=>(c n hn).1⟩,by show ss.length*8≤_;omega,d⟩,fun n hn=>(c n hn).2⟩
 unfold cG;split
 ·exact fin _ _ (by omega) (by rw[Fc _ _ _ (show bf t.sessions x.session≤_ from Ts)];omega) hN (fun s hs=>by
   rcases AG Ts hs with rfl|a
   ·exact x3
   ·exact w5 _ a)
 split
 ·exact fin _ _ (RW (mF (z:=x.zxid) g1 (dk g2).2.2.1 _ (RE _)).len (by omega)) (RW (V8 _ _) (by omega)) (qv hN x1 _) (fun s hs=>w5 s (Tx hs))
 split
 ·rename_i o3
  have hpl:place (pathsN t.nodes) x.path≤t.nodes.length:=by have:=fc (pathsN t.nodes) x.path;rwa[ao] at this
  refine fin _ _ ?_ (by omega) ?_ w5
  ·unfold pP;rw[py,Fc _ _ _ hpl];have:=(g6 o3).2.2;omega
  ·refine Ey (fun n hn=>?_) x1
   rcases AG hpl hn with rfl|a
   ·exact⟨⟨x4,x5,x1,x1,x1,⟨by show(_:Int)≤0;decide,by show(0:Int)≤_;decide⟩,⟨by show(_:Int)≤0;decide,by show(0:Int)≤_;decide⟩,x7,⟨by show(_:Int)≤0;decide,by show(0:Int)≤_;decide⟩⟩,hp⟩
   ·exact hN n a
 split
 ·refine fin _ _ ?_ (by omega) (EL hN x1) w5
  unfold fx;rw[py];exact RW (V8 _ _) (by omega)
 ·obtain⟨o1,o2,_,_⟩:=dk g2
  have hq:=(ag (aF g1) (g8 (by omega))).1;rw[aK] at hq;refine fin _ _ (by unfold setN;rw[RQ];omega) (by omega) (fun n hn=>?_) w5;rcases S1 hn with a|rfl
  ·exact hN n a
  ·obtain⟨⟨a1,a2,b1,b2,b3,b4,b5,b6,b7⟩,c⟩:=hN _ (bs t.nodes default (k:=place (pathsN t.nodes) x.path) hq)
   exact⟨⟨a1,x5,b1,x1,b3,x6,b5,b6,b7⟩,c⟩
theorem FA{t:XI}{x:ATxn}(h:okT t)(hx:x.wf)(hp:x.path.length≤1048576):okT (ah t x).1:=by
 have hd:okT (default:XI):=⟨⟨by unfold okI;decide,⟨by decide,fun _ h=>by cases h⟩,by decide,fun _ h=>by cases h⟩,fun _ h=>by cases h⟩;unfold ah;split
 ·exact hd
 ·rename_i h0
  split
  ·exact hd
  ·exact N3 h hx hp (Tn.1 h0)
theorem Ca{t:XI}{x:ATxn}:(ah t x).2.1.length≤1000:=by
 unfold ah;split
 ·exact RI _
 ·rename_i h0
  have h0:=Tn.1 h0;obtain⟨g1,g2,g3,g4,g5,g6,g7,g8⟩:=cp h0;have h400:t.nodes.length≤400:=(cr g1).2.1;split
  ·exact RI _
  ·show(cG t x).2.length≤_
   unfold cG;split
   ·exact RI _
   split
   ·have:=(mF (z:=x.zxid) g1 (dk g2).2.2.1 _ (RE _)).elen
    simp only;omega
   split
   ·show 2≤_;omega
   split
   ·show 2≤_;omega
   ·show 1≤_;omega
theorem qSs1:Pls [XE [0,2,3,4] (.fork 1 (XE [5,6] .done) 5 (XE [1,6] .done))]:=pls _
theorem Qo:Pls [XE [1,2] (.forks 0 (.fork 3 (XE [4,5,6,7,8] .done) 5 (XE [3,4,6,7,8] .done)) 3 (XE [4] (.fork 0 (XE [5,6,7,8] .done) 5 (XE [0,6,7,8] .done))) 5 (XE [0,3,4,6,7,8] .done))]:=pls _
def bg(s:XH)(x:ATxn)(safe:Bool):XH×Int:=
 if x.zxid≤aA s.peer.log then(default,13) else if(cI s.disk.files x safe).2=0 then(⟨s.up,(cI s.disk.files x safe).1,⟨s.peer.id,s.peer.epoch,s.peer.log++[x],s.peer.done⟩,s.tree,s.watches⟩,0) else(default,(cI s.disk.files x safe).2)
def bR(s:XH)(keep:Int):XH×Int:=
 if(eJ s.disk.files keep).2=0 then(⟨false,(eJ s.disk.files keep).1,⟨s.peer.id,0,[],0⟩,t00,[]⟩,0) else(default,(eJ s.disk.files keep).2)
theorem kv(l:List ATxn)(x:ATxn):l.map ATxn.row++[[.int .i64 x.zxid,.int .i64 x.op,.int .i64 x.session,.str x.path,.str x.data,.int .i64 x.version,.int .i64 x.owner]]=(l++[x]).map ATxn.row:=by rw[Sb];rfl
theorem kN(l:List ATxn)(x:ATxn):List.take (l.length+1) ((l++[x]).map ATxn.row)=(l++[x]).map ATxn.row:=Rz (by simp)
theorem qk(s:XH)(hw:s.wf):ab Tryz.prog [] 156 [s.av] (ret s.av):=by
 obtain⟨_,h1,h2,h3,h4⟩:=hw;have hl1:=h2.2.2.1.1;have hl2:=h4.1;refine zJ Tryz.func156 Tryz.ntmps156 Tryz.results156 ?_;simp only[go_sem];refine zW qw (z2 (ml s.disk h1.1) (Er s.tree h3)) X5 (z1 ?_)
 all_goals exact zEe X5
theorem vQ(s:XH)(hw:s.wf):ab Tryz.prog [] 156 [s.av] (ew (.agg [.d (.bool s.up),.d (.sl 3 (s.disk.files.map AFile.row)),I s.peer.id,I s.peer.epoch,.osl 0 7 0 s.peer.log.length,I s.peer.done,.d (.int .i64 s.tree.zxid),.d (.sl 9 (s.tree.nodes.map XG.row)),.d (.sl 1 (s.tree.sessions.map a8)),.osl 1 3 0 s.watches.length]) [.rows 7 (s.peer.log.map ATxn.row),.rows 3 (s.watches.map AWatch.row)]):=by
 obtain⟨_,h1,h2,h3,h4⟩:=hw;have hl1:=h2.2.2.1.1;have hl2:=h4.1;refine zJ Tryz.func156 Tryz.ntmps156 Tryz.results156 ?_;simp only[go_sem];refine zW qw (z2 (ml s.disk h1.1) (Er s.tree h3)) X5 (z1 ?_)
 all_goals(refine zOp X5 ?_;simp(disch:=omega) only[go_sem,aa];refine WV ?_ (af.same ⟨rfl,rfl⟩);refine zV [2,3] rfl rfl rfl rfl ?_ ?_<;>simp(disch:=omega) only[go_sem,aa,UL,UM])
theorem D3(s:XH)(x:ATxn)(safe:Bool)(hw:s.wf)(hx:x.wf)(hl:s.peer.log.length≤1048576):ab Tryz.prog [] 106 [s.av,x.av,B safe] (ret (.tup [(bg s x safe).1.av,I (bg s x safe).2])):=by
 obtain⟨_,h1,h2,h3,h4⟩:=hw;have hlast:=mw s.peer.log h2.2.2.1.1;have ha:=Jg s.disk x safe h1.1 h1.2 hx.2.2.2.1 hx.2.2.2.2.1;unfold bg;generalize cI s.disk.files x safe=q at ha ⊢;obtain⟨d2,e⟩:=q;simp only at ha ⊢;refine zJ Tryz.func106 Tryz.ntmps106 Tryz.results106 ?_;simp only[go_sem]
 (repeat' first
|(with_reducible refine AR.f ?_)
|(with_reducible refine AWP.cond rfl ?_ ?_<;>intro hc<;>(try simp only[hcs,RN,RY,RZ] at hc))
|((first|((first|refine zP ((XE [0,2,3,4] (.fork 1 (XE [5,6] .done) 5 (XE [1,6] .done)))) ?_|refine zP ((XE [0,1,6,7] (.forks 2 (XE [3,4] (.forks 5 (.fork 8 (.fork 9 (XE [10,11,12,13,14,15] .done) 10 (.fork 9 (XE [11,12,13,14,15] .done) 11 (XE [9,12,13,14,15] .done))) 10 (.fork 8 (.fork 9 (XE [11,12,13,14,15] .done) 11 (XE [9,12,13,14,15] .done)) 11 (XE [8,9,12,13,14,15] .done))) 8 (.fork 5 (.fork 9 (XE [10,11,12,13,14,15] .done) 10 (.fork 9 (XE [11,12,13,14,15] .done) 11 (XE [9,12,13,14,15] .done))) 10 (.fork 5 (.fork 9 (XE [11,12,13,14,15] .done) 11 (XE [9,12,13,14,15] .done)) 11 (XE [5,9,12,13,14,15] .done))) 10 (.forks 5 (.fork 8 (.fork 9 (XE [11,12,13,14,15] .done) 11 (XE [9,12,13,14,15] .done)) 11 (XE [8,9,12,13,14,15] .done)) 8 (.fork 5 (.fork 9 (XE [11,12,13,14,15] .done) 11 (XE [9,12,13,14,15] .done)) 11 (XE [5,9,12,13,14,15] .done)) 11 (.fork 5 (XE [8,9,12,13,14,15] .done) 8 (XE [5,9,12,13,14,15] .done))))) 8 (.fork 2 (XE [3,4] (.fork 5 (.fork 9 (XE [10,11,12,13,14,15] .done) 10 (.fork 9 (XE [11,12,13,14,15] .done) 11 (XE [9,12,13,14,15] .done))) 10 (.fork 5 (.fork 9 (XE [11,12,13,14,15] .done) 11 (XE [9,12,13,14,15] .done)) 11 (XE [5,9,12,13,14,15] .done)))) 10 (.fork 2 (XE [3,4] (.fork 5 (.fork 9 (XE [11,12,13,14,15] .done) 11 (XE [9,12,13,14,15] .done)) 11 (XE [5,9,12,13,14,15] .done))) 11 (XE [2,3,4,5,9,12,13,14,15] .done))) 10 (.forks 2 (XE [3,4] (.forks 5 (.fork 8 (.fork 9 (XE [11,12,13,14,15] .done) 11 (XE [9,12,13,14,15] .done)) 11 (XE [8,9,12,13,14,15] .done)) 8 (.fork 5 (.fork 9 (XE [11,12,13,14,15] .done) 11 (XE [9,12,13,14,15] .done)) 11 (XE [5,9,12,13,14,15] .done)) 11 (.fork 5 (XE [8,9,12,13,14,15] .done) 8 (XE [5,9,12,13,14,15] .done)))) 8 (.fork 2 (XE [3,4] (.fork 5 (.fork 9 (XE [11,12,13,14,15] .done) 11 (XE [9,12,13,14,15] .done)) 11 (XE [5,9,12,13,14,15] .done))) 11 (XE [2,3,4,5,9,12,13,14,15] .done)) 11 (XE [2,3,4] (.fork 5 (XE [8,9,12,13,14,15] .done) 8 (XE [5,9,12,13,14,15] .done))))))) ?_|(with_reducible first|refine zR ?_));intro K hK)|((first|refine zA hlast ?_ ?_ ?_ ?_ ?_|refine zA ha ?_ ?_ ?_ ?_ ?_);(focus exact rfl);(focus exact rfl);iterate 2 (focus((try simp(disch:=omega) only[go_sem,aa,kv,kN])<;>(try omega)<;>fail)))|((first|refine zN ha rfl ?_ ?_|refine zX hlast rfl ?_ ?_|refine zX ha rfl ?_ ?_|refine zY ha ?_ ?_);(focus((try simp(disch:=omega) only[go_sem,aa,kv,kN])<;>(try omega)<;>fail))))<;>(try simp(disch:=omega) only[go_sem,aa,kv,kN])<;>(repeat' with_reducible refine Sg ?_ ?_)<;>(try(with_reducible refine hK _ ?_;clear hK K)))
|omega)
 all_goals first
  |(rw[Rx (by omega)];exact zEf dfl;done)
  |(rw[Rw (by omega),Rw (by omega)];exact zEf dfl;done)
  |(rw[Rw (by omega),Rx (by omega)];exact zEf (zx @I.eq_1 (zx @S.eq_1 (zx @kv @kN)));done)
theorem oS(s:XH)(x:ATxn)(safe:Bool)(hw:s.wf)(hx:x.wf)(hp:x.path.length≤1048576)(hl:s.peer.log.length≤1048576):ab Tryz.prog [] 103 [s.av,x.av,B safe] (ret (.tup [(bg s x safe).1.av,I (bg s x safe).2])):=by
 have hcp:=vQ s hw;obtain⟨_,h1,h2,h3,h4⟩:=hw;have hlast:=ref_last_c s.peer.log h2.2.2.1.1;have ha:=yx s.disk x safe h1.1 h1.2 hx.1 hp hx.2.2.2.2.1;unfold bg;generalize cI s.disk.files x safe=q at ha ⊢;obtain⟨d2,e⟩:=q;simp only at ha ⊢;refine zJ Tryz.func103 Tryz.ntmps103 Tryz.results103 ?_;simp only[go_sem]
 (refine zW qw (z4 qSs1 hlast ha hcp) (zx @kv @kN) (zc ?_ (zc ?_ (z4 ?_ ?_ ?_ ?_)))<;>(repeat with_reducible intro hc))
 all_goals first
  |(rw[Rx (by omega)];exact zEf dfl;done)
  |(rw[Rw (by omega),Rw (by omega)];exact zEf dfl;done)
  |(rw[Rw (by omega),Rx (by omega)];exact zEf (zx @I.eq_1 (zx @S.eq_1 (zx @kv @kN)));done)
theorem IQ(s:XH)(keep:Int)(hw:s.wf):ab Tryz.prog [] 118 [s.av,I keep] (ret (.tup [(bR s keep).1.av,I (bR s keep).2])):=by
 obtain⟨_,h1,h2,h3,h4⟩:=hw;have ha:=NA s.disk keep h1.1 h1.2;unfold bR;generalize eJ s.disk.files keep=q at ha ⊢;obtain⟨d2,e⟩:=q;simp only at ha ⊢;refine zJ Tryz.func118 Tryz.ntmps118 Tryz.results118 ?_;simp only[go_sem]
 (refine zW qw (z3 Qo ha Oi) X5 (zc ?_ (zc ?_ (z4 ?_ ?_ ?_ ?_)))<;>(repeat with_reducible intro hc))
 all_goals first
  |(rw[Rw (by omega)];exact zEf dfl;done)
  |(rw[Rx (by omega)];exact zEf (zx @I.eq_1 (zx @S.eq_1 @t00.eq_1));done)
theorem yQ(s:XH)(keep:Int)(hw:s.wf):ab Tryz.prog [] 49 [s.av,I keep] (ret (.tup [(bR s keep).1.av,I (bR s keep).2])):=by
 obtain⟨_,h1,h2,h3,h4⟩:=hw;have ha:=AC s.disk keep h1.1 h1.2;unfold bR;generalize eJ s.disk.files keep=q at ha ⊢;obtain⟨d2,e⟩:=q;simp only at ha ⊢;refine zJ Tryz.func49 Tryz.ntmps49 Tryz.results49 ?_;simp only[go_sem]
 (refine zW qw (z3 Qo ha wn) X5 (zc ?_ (zc ?_ (z4 ?_ ?_ ?_ ?_)))<;>(repeat with_reducible intro hc))
 all_goals first
  |(rw[Rw (by omega)];exact zEf dfl;done)
  |(rw[Rx (by omega)];exact zEf (zx @I.eq_1 (zx @S.eq_1 @t00.eq_1));done)
def mS(t:XI)(r:XK):Int:=
 if br r.path=true then(if r.session∈t.sessions then(if(aw t r.path).2=0 then(if ¬ r.version=-1∧¬ r.version=(aw t r.path).1.stat.version then 9 else 0) else(aw t r.path).2) else 12) else 2
def qS(r:XK):List UInt8:=(splitP r.path).1.1
def sC(t:XI)(r:XK):List UInt8×Int:=dN (splitP r.path).1.2 (aw t (qS r)).1.stat.cversion
def ma(t:XI)(r:XK):Int:=
 if r.flags<0∨3<r.flags then 3 else if(splitP r.path).2=0 then(if r.session∈t.sessions then(if 2≤r.flags then(if(aw t (qS r)).2=0 then(if(sC t r).2=0 then(dg (qS r) (sC t r).1).2 else(sC t r).2) else(aw t (qS r)).2) else 0) else 12) else 2
def kH(t:XI)(r:XK):List UInt8:=if 2≤r.flags then(dg (qS r) (sC t r).1).1 else r.path
def kM(r:XK):Int:=if r.flags=1∨r.flags=3 then r.session else 0
def fG(t:XI)(z:Int)(r:XK):ATxn×Int:=
 if r.op=1∨r.op=2 then(⟨z,r.op,r.session,[],[],0,0⟩,0)
 else if r.op=3 then(⟨z,3,r.session,kH t r,r.data,0,kM r⟩,ma t r)
 else if r.op=4 then(⟨z,4,r.session,r.path,[],0,0⟩,mS t r)
 else if r.op=5 then(⟨z,5,r.session,r.path,r.data,IntKind.i64.wrap ((aw t r.path).1.stat.version+1),0⟩,mS t r)
 else(default,4)
def gk(t:XI)(z:Int)(r:XK):Prop:=aS t=true∧bd z∧1≤r.session∧r.session≤2147483647
instance (t:XI) (z:Int) (r:XK):Decidable (gk t z r):=by unfold gk;infer_instance
def bA(t:XI)(z:Int)(r:XK):ATxn×Int:=
 if gk t z r then(if(fG t z r).2=0 then(if(ah t (fG t z r).1).2.2=0 then((fG t z r).1,0) else(default,(ah t (fG t z r).1).2.2)) else(default,(fG t z r).2)) else(default,3)
theorem Ev{t:XI}{z:Int}{r:XK}(h:¬ gk t z r):bA t z r=(default,3):=by unfold bA;rw[Rw h]
theorem bG{t:XI}{z:Int}{r:XK}(h:gk t z r){x:ATxn}{e:Int}(h2:fG t z r=(x,e))(h3:¬ e=0):bA t z r=(default,e):=by unfold bA;rw[Rx h,h2,Rw h3]
theorem dO{t:XI}{z:Int}{r:XK}(h:gk t z r){x:ATxn}(h2:fG t z r=(x,0)):bA t z r=if(ah t x).2.2=0 then(x,0) else(default,(ah t x).2.2):=by unfold bA;rw[Rx h,h2,Rx rfl]
theorem xZ(t:XI)(r:XK)(hw:t.wf)(hg:aS t=true)(hp:okS r.path):ab Tryz.prog [] 176 [t.av,r.av] (ret (.tup [I (if mS t r=0 then(aw t r.path).1.stat.version else 0),I (mS t r)])):=by
 have hr:=aF hg;have hri:=fV hg;refine zJ Tryz.func176 Tryz.ntmps176 Tryz.results176 ?_;simp only[go_sem]
 (refine zW qw (z3 (good_c r.path hp) (open_c t r.session hw.2.2.1 hri) (kV t r.path hw.2.1.1 hr)) X5 (zc ?_ (z4 ?_ ?_ ?_ ?_))<;>(repeat with_reducible intro hc))
 all_goals
  unfold mS
  (refine zE2 X5 ?_;(try simp(disch:=omega) only[go_sem,aa,I,B,S,zj]))
  try(repeat' split)
  all_goals first|rfl|omega|(exfalso;omega)|(exfalso;simp_all;done)|(simp_all;done)
theorem MG(a b:List UInt8):(dg a b).1.length≤200:=by
 by_cases h:br a=true∧aU b=true
 ·by_cases h2:200<(jq a b).length
  ·rw[oQ h.1 h.2 h2];exact RI _
  ·rw[ue h.1 h.2 (by omega)];show(jq a b).length≤200;omega
 ·rw[kB h];exact RI _
theorem sb(s:List UInt8):(splitP s).1.1.length≤200∧(splitP s).1.2.length≤200:=by
 by_cases h:br s=true
 case neg=>rw[rm h];exact⟨by decide,by decide⟩
 rcases la h with rfl|⟨ps,p,hn,rfl,hl,hj⟩
 ·rw[kX];exact⟨by decide,by decide⟩
 ·rw[ly hn hl]
  have hp:=AQ (ps:=ps++[p]) ps.length hl;rw[Ui] at hp
  ·refine⟨hp,?_⟩
   rw[hj,Ry,RD] at hl;show p.length≤200;omega
  ·rfl
theorem EZ(a:List UInt8)(n:Int):(dN a n).1.length≤a.length+10:=by
 unfold dN;split
 ·exact RI _
 ·split
  ·show(ru a n.toNat).length≤_
   unfold ru;rw[Ry,pD];omega
  ·exact RI _
theorem Ee{t:XI}(hw:t.wf)(p:List UInt8):(aw t p).1.wf:=by
 have hd:(default:XG).wf:=by unfold XG.wf XU.wf okS okI;decide
 unfold aw;split
 ·show XG.wf _
  by_cases h:place (ar t) p<t.nodes.length
  ·exact hw.2.1.2 _ (bs _ _ h)
  ·show(t.nodes.getD _ default).wf
   rw[Ru,RX (by omega)];exact hd
 ·exact hd
theorem cW{t:XI}{z:Int}{r:XK}(h:okT t)(hr:r.wf)(hp:r.path.length≤1048576)(hz:okI z):(fG t z r).1.wf∧(fG t z r).1.path.length≤1048576:=by
 obtain⟨r1,r2,r3,r4,r5,r6⟩:=hr;have n0:okI 0:=⟨by decide,by decide⟩;have s0:okS []:=RI _;have n3:okI 3:=⟨by decide,by decide⟩;have n4:okI 4:=⟨by decide,by decide⟩;have n5:okI 5:=⟨by decide,by decide⟩;unfold fG;split
 ·exact⟨⟨hz,r1,r2,s0,s0,n0,n0⟩,RI _⟩
 split
 ·have hc:(kH t r).length≤1048576:=by
   unfold kH;split
   ·exact RW (MG _ _) (by omega)
   ·exact hp
  refine⟨⟨hz,n3,r2,RW hc (by omega),r4,n0,?_⟩,hc⟩;show okI (kM r);unfold kM;split
  ·exact r2
  ·exact n0
 split
 ·exact⟨⟨hz,n4,r2,r3,s0,n0,n0⟩,hp⟩
 split
 ·exact⟨⟨hz,n5,r2,r3,r4,uT _,n0⟩,hp⟩
 ·exact⟨⟨n0,n0,n0,s0,s0,n0,n0⟩,RI _⟩
theorem Q9:Pls [XE [0,1,2,4] (.fork 3 (XE [5,6,7] .done) 5 (XE [3,6,7] .done))]:=pls _
theorem Lp:Pls [XE [0,1,2,3,6] (.fork 4 (XE [5,7,8,9] .done) 7 (XE [4,5,8,9] .done))]:=pls _
theorem LR{t:XI}{z:Int}{r:XK}(o:r.op=4):fG t z r=(⟨z,4,r.session,r.path,[],0,0⟩,mS t r):=by unfold fG;rw[Rw (by omega),Rw (by omega),Rx o]
theorem IS{t:XI}{z:Int}{r:XK}(o:r.op=5):fG t z r=(⟨z,5,r.session,r.path,r.data,IntKind.i64.wrap ((aw t r.path).1.stat.version+1),0⟩,mS t r):=by unfold fG;rw[Rw (by omega),Rw (by omega),Rw (by omega),Rx o]
theorem sM{t:XI}{z:Int}{r:XK}(o:r.op=1∨r.op=2):fG t z r=(⟨z,r.op,r.session,[],[],0,0⟩,0):=by unfold fG;rw[Rx o]
theorem HT{t:XI}{z:Int}{r:XK}(o:¬ (1≤r.op∧r.op≤5)):fG t z r=(default,4):=by unfold fG;rw[Rw (by omega),Rw (by omega),Rw (by omega),Rw (by omega)]
theorem vu(t:XI)(r:XK):(br r.path=false∧mS t r=2)∨(br r.path=true∧¬ r.session∈t.sessions∧mS t r=12)∨(br r.path=true∧r.session∈t.sessions∧¬ (aw t r.path).2=0∧mS t r=(aw t r.path).2) ∨
  (br r.path=true∧r.session∈t.sessions∧(aw t r.path).2=0∧(¬ r.version=-1∧¬ r.version=(aw t r.path).1.stat.version)∧mS t r=9)∨(br r.path=true∧r.session∈t.sessions∧(aw t r.path).2=0∧¬ (¬ r.version=-1∧¬ r.version=(aw t r.path).1.stat.version)∧mS t r=0):=by
 unfold mS
 by_cases a:br r.path=true
 ·rw[Rx a]
  by_cases b:r.session∈t.sessions
  ·rw[Rx b]
   by_cases c:(aw t r.path).2=0
   ·rw[Rx c]
    by_cases d:¬ r.version=-1∧¬ r.version=(aw t r.path).1.stat.version
    ·rw[Rx d];exact .inr (.inr (.inr (.inl ⟨a,b,c,d,rfl⟩)))
    ·rw[Rw d];exact .inr (.inr (.inr (.inr ⟨a,b,c,d,rfl⟩)))
   ·rw[Rw c];exact .inr (.inr (.inl ⟨a,b,c,rfl⟩))
  ·rw[Rw b];exact .inr (.inl ⟨a,b,rfl⟩)
 ·rw[Rw a];exact .inl ⟨by simpa using a,rfl⟩
theorem NU(t:XI)(z:Int)(r:XK)(ht:okT t)(hr:r.wf)(hp:r.path.length≤1048576)(hz:okI z)(hq:¬ gk t z r):ab Tryz.prog [] 105 [t.av,I z,r.av] (ret (.tup [(bA t z r).1.av,I (bA t z r).2])):=by
 have hgc:=lk t ht.1;have hzc:=zgood_c z;rw[Ev hq];unfold gk at hq;generalize aS t=g at hq hgc;refine zJ Tryz.func105 Tryz.ntmps105 Tryz.results105 ?_;simp only[go_sem]
 (refine zW qw (z2 hgc hzc) X5 (zc ?_ (zc ?_ (zc ?_ (zc ?_ (zc ?_ (z4 ?_ ?_ ?_ ?_))))))<;>(try with_reducible intro(K:ASt→Prop) hK)<;>(repeat with_reducible intro hc))
 all_goals first
  |(exact zEf dfl;done)
  |(exfalso;exact hq ⟨by assumption,by assumption,by omega,by omega⟩)
  |(exfalso;simp_all;done)
  |(exfalso;simp_all;omega)
theorem MT(t:XI)(z:Int)(r:XK)(ht:okT t)(hr:r.wf)(hp:r.path.length≤1048576)(hz:okI z)(hq:gk t z r)(o:r.op=1∨r.op=2∨¬ (1≤r.op∧r.op≤5)):ab Tryz.prog [] 105 [t.av,I z,r.av] (ret (.tup [(bA t z r).1.av,I (bA t z r).2])):=by
 have hgc:=(lk t ht.1).re (congrArg B hq.1);have hzc:=(zgood_c z).re (congrArg B (decide_eq_true hq.2.1));obtain⟨hs1,hs2⟩:=hq.2.2
 by_cases o1:r.op=1∨r.op=2
 ·rcases o1 with o|o
  ·have hx:=sM (t:=t) (z:=z) (r:=r) (.inl o)
   rw[o] at hx;have hxw:=cW (z:=z) ht hr hp hz;rw[hx] at hxw;simp only at hxw;have ha:=iA t ⟨z,1,r.session,[],[],0,0⟩ ht.1 hxw.1.2.2.2.1 hxw.1.2.2.2.2.1;rw[dO hq (hx)];generalize ah t ⟨z,1,r.session,[],[],0,0⟩=q at ha ⊢;obtain⟨a,es,e⟩:=q;simp only at ha ⊢;refine zJ Tryz.func105 Tryz.ntmps105 Tryz.results105 ?_;simp only[go_sem]
   (refine zW qw (z3 hgc hzc ha) @o (z2 ?_ ?_)<;>(repeat with_reducible intro hc))
   all_goals first
    |(exfalso;omega)
    |(rw[Rx (by omega)];exact zEf (zx @I.eq_1 @S.eq_1);done)
    |(rw[Rw (by omega)];exact zEf dfl;done)
  ·have hx:=sM (t:=t) (z:=z) (r:=r) (.inr o)
   rw[o] at hx;have hxw:=cW (z:=z) ht hr hp hz;rw[hx] at hxw;simp only at hxw;have ha:=iA t ⟨z,2,r.session,[],[],0,0⟩ ht.1 hxw.1.2.2.2.1 hxw.1.2.2.2.2.1;rw[dO hq (hx)];generalize ah t ⟨z,2,r.session,[],[],0,0⟩=q at ha ⊢;obtain⟨a,es,e⟩:=q;simp only at ha ⊢;refine zJ Tryz.func105 Tryz.ntmps105 Tryz.results105 ?_;simp only[go_sem]
   (refine zW qw (z3 hgc hzc ha) @o (z2 ?_ ?_)<;>(repeat with_reducible intro hc))
   all_goals first
    |(exfalso;omega)
    |(rw[Rx (by omega)];exact zEf (zx @I.eq_1 @S.eq_1);done)
    |(rw[Rw (by omega)];exact zEf dfl;done)
 ·have hx:=HT (t:=t) (z:=z) (r:=r) (by omega)
  rw[bG hq hx (by decide)];refine zJ Tryz.func105 Tryz.ntmps105 Tryz.results105 ?_;simp only[go_sem]
  (refine zW qw (z2 hgc hzc) X5 (z1 ?_)<;>(repeat with_reducible intro hc))
  all_goals first|(exfalso;omega)|(exact zEf dfl;done)
theorem Ms(t:XI)(z:Int)(r:XK)(ht:okT t)(hr:r.wf)(hp:r.path.length≤1048576)(hz:okI z)(hq:gk t z r)(o:r.op=4):ab Tryz.prog [] 105 [t.av,I z,r.av] (ret (.tup [(bA t z r).1.av,I (bA t z r).2])):=by
 have hgc:=(lk t ht.1).re (congrArg B hq.1);have hzc:=(zgood_c z).re (congrArg B (decide_eq_true hq.2.1));obtain⟨hs1,hs2⟩:=hq.2.2;have hx:=LR (t:=t) (z:=z) (r:=r) o;have hvc:=xZ t r ht.1 hq.1 hr.2.2.1
 by_cases hv:mS t r=0
 case neg=>
  rw[bG hq hx hv];rw[Rw hv] at hvc;generalize mS t r=e at hv hvc ⊢;refine zJ Tryz.func105 Tryz.ntmps105 Tryz.results105 ?_;simp only[go_sem]
  (refine zW qw (z3 hgc hzc hvc) @o (z1 ?_)<;>(repeat with_reducible intro hc))
  all_goals first|(exfalso;omega)|(exact zEf dfl;done)
 rw[Rx hv,hv] at hvc;rw[hv] at hx;have hxw:=cW (z:=z) ht hr hp hz;rw[hx] at hxw;simp only at hxw;have ha:=iA t ⟨z,4,r.session,r.path,[],0,0⟩ ht.1 hxw.1.2.2.2.1 hxw.1.2.2.2.2.1;rw[dO hq (hx)];generalize ah t ⟨z,4,r.session,r.path,[],0,0⟩=q at ha ⊢;obtain⟨a,es,e⟩:=q;simp only at ha ⊢;refine zJ Tryz.func105 Tryz.ntmps105 Tryz.results105 ?_;simp only[go_sem]
 (refine zW qw (z4 hgc hzc hvc ha) @o (z2 ?_ ?_)<;>(repeat with_reducible intro hc))
 all_goals first
  |(exfalso;omega)
  |(rw[Rx (by omega)];exact zEf (zx @I.eq_1 @S.eq_1);done)
  |(rw[Rw (by omega)];exact zEf dfl;done)
theorem Nw(t:XI)(z:Int)(r:XK)(ht:okT t)(hr:r.wf)(hp:r.path.length≤1048576)(hz:okI z)(hq:gk t z r)(o:r.op=5):ab Tryz.prog [] 105 [t.av,I z,r.av] (ret (.tup [(bA t z r).1.av,I (bA t z r).2])):=by
 have hgc:=(lk t ht.1).re (congrArg B hq.1);have hzc:=(zgood_c z).re (congrArg B (decide_eq_true hq.2.1));obtain⟨hs1,hs2⟩:=hq.2.2;have hx:=IS (t:=t) (z:=z) (r:=r) o;have hvc:=xZ t r ht.1 hq.1 hr.2.2.1
 by_cases hv:mS t r=0
 case neg=>
  rw[bG hq hx hv];rw[Rw hv] at hvc;generalize mS t r=e at hv hvc ⊢;refine zJ Tryz.func105 Tryz.ntmps105 Tryz.results105 ?_;simp only[go_sem]
  (refine zW qw (z4 Q9 hgc hzc hvc) @o (z1 ?_)<;>(repeat with_reducible intro hc))
  all_goals first|(exfalso;omega)|(exact zEf dfl;done)
 rw[Rx hv,hv] at hvc;rw[hv] at hx;have hxw:=cW (z:=z) ht hr hp hz;rw[hx] at hxw;simp only at hxw;have ha:=iA t ⟨z,5,r.session,r.path,r.data,IntKind.i64.wrap ((aw t r.path).1.stat.version+1),0⟩ ht.1 hxw.1.2.2.2.1 hxw.1.2.2.2.2.1;rw[dO hq (hx)];generalize ah t ⟨z,5,r.session,r.path,r.data,IntKind.i64.wrap ((aw t r.path).1.stat.version+1),0⟩=q at ha ⊢;obtain⟨a,es,e⟩:=q;simp only at ha ⊢;refine zJ Tryz.func105 Tryz.ntmps105 Tryz.results105 ?_;simp only[go_sem]
 (refine zW qw (zc Q9 (z4 hgc hzc hvc ha)) @o (z2 ?_ ?_)<;>(repeat with_reducible intro hc))
 all_goals first
  |(exfalso;omega)
  |(rw[Rx (by omega)];exact zEf (zx @I.eq_1 @S.eq_1);done)
  |(rw[Rw (by omega)];exact zEf dfl;done)
theorem BK(t:XI)(z:Int)(r:XK)(ht:okT t)(hr:r.wf)(hp:r.path.length≤1048576)(hz:okI z)(hq:¬ gk t z r):ab Tryz.prog [] 102 [t.av,I z,r.av] (ret (.tup [(bA t z r).1.av,I (bA t z r).2])):=by
 have hgc:=cy t ht.1 ht.2;have hzc:=ref_zgood_c z hz;rw[Ev hq];unfold gk at hq;generalize aS t=g at hq hgc;refine zJ Tryz.func102 Tryz.ntmps102 Tryz.results102 ?_;simp only[go_sem]
 (refine zW qw (z2 hgc hzc) X5 (zc ?_ (zc ?_ (zc ?_ (zc ?_ (zc ?_ (zc ?_ (z4 ?_ ?_ ?_ ?_)))))))<;>(try with_reducible intro(K:ASt→Prop) hK)<;>(repeat with_reducible intro hc))
 all_goals first
  |(exact zEf dfl;done)
  |(exfalso;exact hq ⟨by assumption,by assumption,by omega,by omega⟩)
  |(exfalso;simp_all;done)
  |(exfalso;simp_all;omega)
theorem Ak(t:XI)(z:Int)(r:XK)(ht:okT t)(hr:r.wf)(hp:r.path.length≤1048576)(hz:okI z)(hq:gk t z r)(o:r.op=1∨r.op=2∨¬ (1≤r.op∧r.op≤5)):ab Tryz.prog [] 102 [t.av,I z,r.av] (ret (.tup [(bA t z r).1.av,I (bA t z r).2])):=by
 have hgc:=(cy t ht.1 ht.2).re (congrArg B hq.1);have hzc:=(ref_zgood_c z hz).re (congrArg B (decide_eq_true hq.2.1));obtain⟨hs1,hs2⟩:=hq.2.2
 by_cases o1:r.op=1∨r.op=2
 ·rcases o1 with o|o
  ·have hx:=sM (t:=t) (z:=z) (r:=r) (.inl o)
   rw[o] at hx;have hxw:=cW (z:=z) ht hr hp hz;rw[hx] at hxw;simp only at hxw;have ha:=dC t ⟨z,1,r.session,[],[],0,0⟩ ht.1 ht.2 hxw.1.1 hxw.2 hxw.1.2.2.2.2.1;rw[dO hq (hx)];generalize ah t ⟨z,1,r.session,[],[],0,0⟩=q at ha ⊢;obtain⟨a,es,e⟩:=q;simp only at ha ⊢;refine zJ Tryz.func102 Tryz.ntmps102 Tryz.results102 ?_;simp only[go_sem]
   (refine zW qw (z3 hgc hzc ha) @o (z2 ?_ ?_)<;>(repeat with_reducible intro hc))
   all_goals first
    |(exfalso;omega)
    |(rw[Rx (by omega)];exact zEf (zx @I.eq_1 @S.eq_1);done)
    |(rw[Rw (by omega)];exact zEf dfl;done)
  ·have hx:=sM (t:=t) (z:=z) (r:=r) (.inr o)
   rw[o] at hx;have hxw:=cW (z:=z) ht hr hp hz;rw[hx] at hxw;simp only at hxw;have ha:=dC t ⟨z,2,r.session,[],[],0,0⟩ ht.1 ht.2 hxw.1.1 hxw.2 hxw.1.2.2.2.2.1;rw[dO hq (hx)];generalize ah t ⟨z,2,r.session,[],[],0,0⟩=q at ha ⊢;obtain⟨a,es,e⟩:=q;simp only at ha ⊢;refine zJ Tryz.func102 Tryz.ntmps102 Tryz.results102 ?_;simp only[go_sem]
   (refine zW qw (z3 hgc hzc ha) @o (z2 ?_ ?_)<;>(repeat with_reducible intro hc))
   all_goals first
    |(exfalso;omega)
    |(rw[Rx (by omega)];exact zEf (zx @I.eq_1 @S.eq_1);done)
    |(rw[Rw (by omega)];exact zEf dfl;done)
 ·have hx:=HT (t:=t) (z:=z) (r:=r) (by omega)
  rw[bG hq hx (by decide)];refine zJ Tryz.func102 Tryz.ntmps102 Tryz.results102 ?_;simp only[go_sem]
  (refine zW qw (z2 hgc hzc) X5 (z1 ?_)<;>(repeat with_reducible intro hc))
  all_goals first|(exfalso;omega)|(exact zEf dfl;done)
theorem Aw(t:XI)(z:Int)(r:XK)(ht:okT t)(hr:r.wf)(hp:r.path.length≤1048576)(hz:okI z)(hq:gk t z r)(o:r.op=4):ab Tryz.prog [] 102 [t.av,I z,r.av] (ret (.tup [(bA t z r).1.av,I (bA t z r).2])):=by
 have hgc:=(cy t ht.1 ht.2).re (congrArg B hq.1);have hzc:=(ref_zgood_c z hz).re (congrArg B (decide_eq_true hq.2.1));obtain⟨hs1,hs2⟩:=hq.2.2;have hri:=aF hq.1;have hx:=LR (t:=t) (z:=z) (r:=r) o;rcases vu t r with⟨c1,cv⟩|⟨c1,c2,cv⟩|⟨c1,c2,c3,cv⟩|⟨c1,c2,c3,c4,cv⟩|⟨c1,c2,c3,c4,cv⟩
 ·skip
  rw[bG hq hx (by omega),cv];refine zJ Tryz.func102 Tryz.ntmps102 Tryz.results102 ?_;simp only[go_sem]
  (refine zW qw (z3 hgc hzc ((bu r.path hp).re (congrArg B c1))) @o (z1 ?_)<;>(repeat with_reducible intro hc))
  all_goals first|(exfalso;omega)|(exact zEf dfl;done)
 ·skip
  rw[bG hq hx (by omega),cv];refine zJ Tryz.func102 Tryz.ntmps102 Tryz.results102 ?_;simp only[go_sem]
  (refine zW qw (z4 hgc hzc ((bu r.path hp).re (congrArg B c1)) ((isOpen_c t r.session ht.1.2.2.1).re (congrArg B (RM c2)))) @o (z1 ?_)<;>(repeat with_reducible intro hc))
  all_goals first|(exfalso;omega)|(exact zEf dfl;done)
 ·skip
  rw[bG hq hx (by omega),cv];have hgn:=iq t r.path ht.1.2.1.1 hri;generalize (aw t r.path).2=e at c3 cv hgn ⊢;refine zJ Tryz.func102 Tryz.ntmps102 Tryz.results102 ?_;simp only[go_sem]
  (refine zW qw (zc hgc (z4 hzc ((bu r.path hp).re (congrArg B c1)) ((isOpen_c t r.session ht.1.2.2.1).re (congrArg B (decide_eq_true c2))) hgn)) @o (z1 ?_)<;>(repeat with_reducible intro hc))
  all_goals first|(exfalso;omega)|(exact zEf dfl;done)
 ·skip
  rw[bG hq hx (by omega),cv];have hgn:=iq t r.path ht.1.2.1.1 hri;rw[c3] at hgn;refine zJ Tryz.func102 Tryz.ntmps102 Tryz.results102 ?_;simp only[go_sem]
  (refine zW qw (zc hgc (z4 hzc ((bu r.path hp).re (congrArg B c1)) ((isOpen_c t r.session ht.1.2.2.1).re (congrArg B (decide_eq_true c2))) hgn)) @o (z1 ?_)<;>(repeat with_reducible intro hc))
  all_goals first|(exfalso;omega)|(exact zEf dfl;done)
 ·rw[cv] at hx
  have hgn:=iq t r.path ht.1.2.1.1 hri;rw[c3] at hgn;have hxw:=cW (z:=z) ht hr hp hz;rw[hx] at hxw;simp only at hxw;have ha:=dC t ⟨z,4,r.session,r.path,[],0,0⟩ ht.1 ht.2 hxw.1.1 hxw.2 hxw.1.2.2.2.2.1;rw[dO hq (hx)];generalize ah t ⟨z,4,r.session,r.path,[],0,0⟩=q at ha ⊢;obtain⟨a,es,e⟩:=q;simp only at ha ⊢;refine zJ Tryz.func102 Tryz.ntmps102 Tryz.results102 ?_;simp only[go_sem]
  (refine zW qw (zc hgc (zc hzc (z4 ((bu r.path hp).re (congrArg B c1)) ((isOpen_c t r.session ht.1.2.2.1).re (congrArg B (decide_eq_true c2))) hgn ha))) @o (z2 ?_ ?_)<;>(repeat with_reducible intro hc))
  all_goals first
   |(exfalso;omega)
   |(rw[Rx (by omega)];exact zEf (zx @I.eq_1 @S.eq_1);done)
   |(rw[Rw (by omega)];exact zEf dfl;done)
theorem Bl(t:XI)(z:Int)(r:XK)(ht:okT t)(hr:r.wf)(hp:r.path.length≤1048576)(hz:okI z)(hq:gk t z r)(o:r.op=5):ab Tryz.prog [] 102 [t.av,I z,r.av] (ret (.tup [(bA t z r).1.av,I (bA t z r).2])):=by
 have hgc:=(cy t ht.1 ht.2).re (congrArg B hq.1);have hzc:=(ref_zgood_c z hz).re (congrArg B (decide_eq_true hq.2.1));obtain⟨hs1,hs2⟩:=hq.2.2;have hri:=aF hq.1;have hx:=IS (t:=t) (z:=z) (r:=r) o;rcases vu t r with⟨c1,cv⟩|⟨c1,c2,cv⟩|⟨c1,c2,c3,cv⟩|⟨c1,c2,c3,c4,cv⟩|⟨c1,c2,c3,c4,cv⟩
 ·skip
  rw[bG hq hx (by omega),cv];refine zJ Tryz.func102 Tryz.ntmps102 Tryz.results102 ?_;simp only[go_sem]
  (refine zW qw (z4 Lp hgc hzc ((bu r.path hp).re (congrArg B c1))) @o (z1 ?_)<;>(repeat with_reducible intro hc))
  all_goals first|(exfalso;omega)|(exact zEf dfl;done)
 ·skip
  rw[bG hq hx (by omega),cv];refine zJ Tryz.func102 Tryz.ntmps102 Tryz.results102 ?_;simp only[go_sem]
  (refine zW qw (zc Lp (z4 hgc hzc ((bu r.path hp).re (congrArg B c1)) ((isOpen_c t r.session ht.1.2.2.1).re (congrArg B (RM c2))))) @o (z1 ?_)<;>(repeat with_reducible intro hc))
  all_goals first|(exfalso;omega)|(exact zEf dfl;done)
 ·skip
  rw[bG hq hx (by omega),cv];have hgn:=iq t r.path ht.1.2.1.1 hri;generalize (aw t r.path).2=e at c3 cv hgn ⊢;refine zJ Tryz.func102 Tryz.ntmps102 Tryz.results102 ?_;simp only[go_sem]
  (refine zW qw (zc Lp (zc hgc (z4 hzc ((bu r.path hp).re (congrArg B c1)) ((isOpen_c t r.session ht.1.2.2.1).re (congrArg B (decide_eq_true c2))) hgn))) @o (z1 ?_)<;>(repeat with_reducible intro hc))
  all_goals first|(exfalso;omega)|(exact zEf dfl;done)
 ·skip
  rw[bG hq hx (by omega),cv];have hgn:=iq t r.path ht.1.2.1.1 hri;rw[c3] at hgn;refine zJ Tryz.func102 Tryz.ntmps102 Tryz.results102 ?_;simp only[go_sem]
  (refine zW qw (zc Lp (zc hgc (z4 hzc ((bu r.path hp).re (congrArg B c1)) ((isOpen_c t r.session ht.1.2.2.1).re (congrArg B (decide_eq_true c2))) hgn))) @o (z1 ?_)<;>(repeat with_reducible intro hc))
  all_goals first|(exfalso;omega)|(exact zEf dfl;done)
 ·rw[cv] at hx
  have hgn:=iq t r.path ht.1.2.1.1 hri;rw[c3] at hgn;have hxw:=cW (z:=z) ht hr hp hz;rw[hx] at hxw;simp only at hxw;have ha:=dC t ⟨z,5,r.session,r.path,r.data,IntKind.i64.wrap ((aw t r.path).1.stat.version+1),0⟩ ht.1 ht.2 hxw.1.1 hxw.2 hxw.1.2.2.2.2.1;rw[dO hq (hx)];generalize ah t ⟨z,5,r.session,r.path,r.data,IntKind.i64.wrap ((aw t r.path).1.stat.version+1),0⟩=q at ha ⊢;obtain⟨a,es,e⟩:=q;simp only at ha ⊢;refine zJ Tryz.func102 Tryz.ntmps102 Tryz.results102 ?_;simp only[go_sem]
  (refine zW qw (zc Lp (zc hgc (zc hzc (z4 ((bu r.path hp).re (congrArg B c1)) ((isOpen_c t r.session ht.1.2.2.1).re (congrArg B (decide_eq_true c2))) hgn ha)))) @o (z2 ?_ ?_)<;>(repeat with_reducible intro hc))
  all_goals first
   |(exfalso;omega)
   |(rw[Rx (by omega)];exact zEf (zx @I.eq_1 @S.eq_1);done)
   |(rw[Rw (by omega)];exact zEf dfl;done)
theorem DM:Pls [XE [0,1,2,3,4,6,7] (.fork 5 (XE [8,9,10,11] .done) 8 (XE [5,9,10,11] .done))]:=pls _
attribute [go_sem] Tryz.ntmps175 Tryz.results175
theorem JO{t:XI}{z:Int}{r:XK}(o:r.op=3):fG t z r=(⟨z,3,r.session,kH t r,r.data,0,kM r⟩,ma t r):=by unfold fG;rw[Rw (by omega),Rx o]
inductive CreC (t:XI) (r:XK):Prop where
 |flags (h:r.flags<0∨3<r.flags) (e:ma t r=3)
 |form (h:0≤r.flags∧r.flags≤3) (h2:¬ (splitP r.path).2=0) (e:ma t r=2)
 |shut (h:0≤r.flags∧r.flags≤3) (h2:(splitP r.path).2=0) (h3:¬ r.session∈t.sessions) (e:ma t r=12)
 |plain (h:r.flags=0∨r.flags=1) (h2:(splitP r.path).2=0) (h3:r.session∈t.sessions) (e:ma t r=0)
 |lack (h:r.flags=2∨r.flags=3) (h2:(splitP r.path).2=0) (h3:r.session∈t.sessions) (h4:¬ (aw t (splitP r.path).1.1).2=0) (e:ma t r=(aw t (splitP r.path).1.1).2)
 |ser (h:r.flags=2∨r.flags=3) (h2:(splitP r.path).2=0) (h3:r.session∈t.sessions) (h4:(aw t (splitP r.path).1.1).2=0) (h5:¬ (dN (splitP r.path).1.2 (aw t (splitP r.path).1.1).1.stat.cversion).2=0) (e:ma t r=(dN (splitP r.path).1.2 (aw t (splitP r.path).1.1).1.stat.cversion).2)
 |join (h:r.flags=2∨r.flags=3) (h2:(splitP r.path).2=0) (h3:r.session∈t.sessions) (h4:(aw t (splitP r.path).1.1).2=0) (h5:(dN (splitP r.path).1.2 (aw t (splitP r.path).1.1).1.stat.cversion).2=0) (h6:¬ (dg (splitP r.path).1.1 (dN (splitP r.path).1.2 (aw t (splitP r.path).1.1).1.stat.cversion).1).2=0) (e:ma t r=(dg (splitP r.path).1.1 (dN (splitP r.path).1.2 (aw t (splitP r.path).1.1).1.stat.cversion).1).2)
 |done (h:r.flags=2∨r.flags=3) (h2:(splitP r.path).2=0) (h3:r.session∈t.sessions) (h4:(aw t (splitP r.path).1.1).2=0) (h5:(dN (splitP r.path).1.2 (aw t (splitP r.path).1.1).1.stat.cversion).2=0) (h6:(dg (splitP r.path).1.1 (dN (splitP r.path).1.2 (aw t (splitP r.path).1.1).1.stat.cversion).1).2=0) (e:ma t r=0)
theorem tV(t:XI)(r:XK):CreC t r:=by
 by_cases a:r.flags<0∨3<r.flags
 ·exact .flags a (by unfold ma sC qS;rw[Rx a])
 by_cases b:(splitP r.path).2=0
 case neg=>exact .form (by omega) b (by unfold ma sC qS;rw[Rw a,Rw b])
 by_cases c:r.session∈t.sessions
 case neg=>exact .shut (by omega) b c (by unfold ma sC qS;rw[Rw a,Rx b,Rw c])
 by_cases d:2≤r.flags
 case neg=>exact .plain (by omega) b c (by unfold ma sC qS;rw[Rw a,Rx b,Rx c,Rw d])
 by_cases e:(aw t (splitP r.path).1.1).2=0
 case neg=>exact .lack (by omega) b c e (by unfold ma sC qS;rw[Rw a,Rx b,Rx c,Rx d,Rw e])
 by_cases f:(dN (splitP r.path).1.2 (aw t (splitP r.path).1.1).1.stat.cversion).2=0
 case neg=>exact .ser (by omega) b c e f (by unfold ma sC qS;rw[Rw a,Rx b,Rx c,Rx d,Rx e,Rw f])
 by_cases g:(dg (splitP r.path).1.1 (dN (splitP r.path).1.2 (aw t (splitP r.path).1.1).1.stat.cversion).1).2=0
 ·exact .done (by omega) b c e f g (by unfold ma sC qS;rw[Rw a,Rx b,Rx c,Rx d,Rx e,Rx f,g])
 ·exact .join (by omega) b c e f g (by unfold ma sC qS;rw[Rw a,Rx b,Rx c,Rx d,Rx e,Rx f])
theorem MD(t:XI)(z:Int)(r:XK)(ht:okT t)(hr:r.wf)(hp:r.path.length≤1048576)(hz:okI z)(hq:gk t z r)(o:r.op=3):ab Tryz.prog [] 105 [t.av,I z,r.av] (ret (.tup [(bA t z r).1.av,I (bA t z r).2])):=by
 have hgc:=(lk t ht.1).re (congrArg B hq.1);have hzc:=(zgood_c z).re (congrArg B (decide_eq_true hq.2.1));obtain⟨hs1,hs2⟩:=hq.2.2;have hri:=aF hq.1;have hrs:=fV hq.1;obtain⟨sl1,sl2⟩:=sb r.path;have hcv:=(Ee ht.1 (splitP r.path).1.1).2.2.2.2.2.2.1;have hsr:=EZ (splitP r.path).1.2 (aw t (splitP r.path).1.1).1.stat.cversion;have hx:=JO (t:=t) (z:=z) (r:=r) o;have hcc:=tV t r;have m0:Int.tmod 0 2=0:=by decide
 have m1:Int.tmod 1 2=1:=by decide
 have m2:Int.tmod 2 2=0:=by decide
 have m3:Int.tmod 3 2=1:=by decide
 have b1:bits .and .i64 0 2=0:=by decide +kernel
 have b2:bits .and .i64 1 2=0:=by decide +kernel
 have b3:bits .and .i64 2 2=2:=by decide +kernel
 have b4:bits .and .i64 3 2=2:=by decide +kernel
 have b5:bits .and .i64 0 1=0:=by decide +kernel
 have b6:bits .and .i64 1 1=1:=by decide +kernel
 have b7:bits .and .i64 2 1=0:=by decide +kernel
 have b8:bits .and .i64 3 1=1:=by decide +kernel
 rcases hcc with⟨h,e⟩|⟨h,h2,e⟩|⟨h,h2,h3,e⟩|⟨h,h2,h3,e⟩|⟨h,h2,h3,h4,e⟩|⟨h,h2,h3,h4,h5,e⟩|⟨h,h2,h3,h4,h5,h6,e⟩|⟨h,h2,h3,h4,h5,h6,e⟩
 ·skip
  rw[bG hq hx (by omega),e];refine zJ Tryz.func105 Tryz.ntmps105 Tryz.results105 ?_;simp only[go_sem]
  (refine zW qw (z4 DM (ic Tryz.func175) hgc hzc) @o (z1 ?_)<;>(repeat with_reducible intro hc))
  all_goals first|(exfalso;omega)|(exact zEf dfl;done)
 ·skip
  rw[bG hq hx (by omega),e];have hsp:=split_c r.path hr.2.2.1;refine zJ Tryz.func105 Tryz.ntmps105 Tryz.results105 ?_;simp only[go_sem]
  (refine zW qw (zc DM (z4 (ic Tryz.func175) hgc hzc hsp)) @o (z1 ?_)<;>(repeat with_reducible intro hc))
  all_goals first|(exfalso;omega)|(exact zEf dfl;done)
 ·skip
  rw[bG hq hx (by omega),e];have hsp:=split_c r.path hr.2.2.1;rw[h2] at hsp;have hop:=(open_c t r.session ht.1.2.2.1 hrs).re (congrArg B (RM h3));refine zJ Tryz.func105 Tryz.ntmps105 Tryz.results105 ?_;simp only[go_sem]
  (refine zW qw (zc DM (zc (ic Tryz.func175) (z4 hgc hzc hsp hop))) @o (z1 ?_)<;>(repeat with_reducible intro hc))
  all_goals first|(exfalso;omega)|(exact zEf dfl;done)
 ·rw[e] at hx
  have hsp:=split_c r.path hr.2.2.1;rw[h2] at hsp;have hop:=(open_c t r.session ht.1.2.2.1 hrs).re (congrArg B (decide_eq_true h3));rcases h with h|h
  ·skip
   have hcp:kH t r=r.path:=by unfold kH;rw[Rw (by omega)]
   have hco:kM r=0:=by unfold kM;rw[Rw (by omega)]
   rw[hcp,hco] at hx;have hxw:=cW (z:=z) ht hr hp hz;rw[hx] at hxw;simp only at hxw;have ha:=iA t ⟨z,3,r.session,r.path,r.data,0,0⟩ ht.1 hxw.1.2.2.2.1 hxw.1.2.2.2.2.1;rw[dO hq hx];generalize ah t ⟨z,3,r.session,r.path,r.data,0,0⟩=q at ha ⊢;obtain⟨a,es,e⟩:=q;simp only at ha ⊢;refine zJ Tryz.func105 Tryz.ntmps105 Tryz.results105 ?_;simp only[go_sem]
   (refine zW qw (zc DM (zc (ic Tryz.func175) (zc hgc (z4 hzc hsp hop ha)))) (zx @o (zx @h (zx @b1 (zx @b2 (zx @b3 (zx @b4 (zx @b5 (zx @b6 (zx @b7 @b8))))))))) (z2 ?_ ?_)<;>(repeat with_reducible intro hc))
   all_goals first
    |(exfalso;omega)
    |(rw[Rx (by omega)];exact zEf (zx @I.eq_1 @S.eq_1);done)
    |(rw[Rw (by omega)];exact zEf dfl;done)
  ·skip
   have hcp:kH t r=r.path:=by unfold kH;rw[Rw (by omega)]
   have hco:kM r=r.session:=by unfold kM;rw[Rx (by omega)]
   rw[hcp,hco] at hx;have hxw:=cW (z:=z) ht hr hp hz;rw[hx] at hxw;simp only at hxw;have ha:=iA t ⟨z,3,r.session,r.path,r.data,0,r.session⟩ ht.1 hxw.1.2.2.2.1 hxw.1.2.2.2.2.1;rw[dO hq hx];generalize ah t ⟨z,3,r.session,r.path,r.data,0,r.session⟩=q at ha ⊢;obtain⟨a,es,e⟩:=q;simp only at ha ⊢;refine zJ Tryz.func105 Tryz.ntmps105 Tryz.results105 ?_;simp only[go_sem]
   (refine zW qw (zc DM (zc (ic Tryz.func175) (zc hgc (z4 hzc hsp hop ha)))) (zx @o (zx @h (zx @b1 (zx @b2 (zx @b3 (zx @b4 (zx @b5 (zx @b6 (zx @b7 @b8))))))))) (z2 ?_ ?_)<;>(repeat with_reducible intro hc))
   all_goals first
    |(exfalso;omega)
    |(rw[Rx (by omega)];exact zEf (zx @I.eq_1 @S.eq_1);done)
    |(rw[Rw (by omega)];exact zEf dfl;done)
 ·skip
  rw[bG hq hx (by omega),e];have hsp:=split_c r.path hr.2.2.1;rw[h2] at hsp;have hop:=(open_c t r.session ht.1.2.2.1 hrs).re (congrArg B (decide_eq_true h3));have hgn:=kV t (splitP r.path).1.1 ht.1.2.1.1 hri;generalize (aw t (splitP r.path).1.1).2=e1 at h4 hgn ⊢;rcases h with h|h
  all_goals
   refine zJ Tryz.func105 Tryz.ntmps105 Tryz.results105 ?_;simp only[go_sem]
   (repeat' first
|(with_reducible refine AR.f ?_)
|(with_reducible refine AWP.cond rfl ?_ ?_<;>intro hc<;>(try simp only[hcs,RN,RY,RZ] at hc))
|(refine bL fun Kk hKk=>(cm df Tryz.func175 rfl (by kernel_rfl) (by simp[Tryz.ntmps175]) ?_);simp only[Tryz.ntmps175,Tryz.results175,Sx,gC,R1,RD,Nat.reduceAdd,Ry,RQ,go_sem])
|((first|((first|refine zP ((XE [0,1,2,3,4,6,7] (.fork 5 (XE [8,9,10,11] .done) 8 (XE [5,9,10,11] .done)))) ?_|(with_reducible first|refine zR ?_));intro K hK)|((first|refine zA hgc ?_ ?_ ?_ ?_ ?_|refine zA hzc ?_ ?_ ?_ ?_ ?_|refine zA hsp ?_ ?_ ?_ ?_ ?_|refine zA hop ?_ ?_ ?_ ?_ ?_|refine zA hgn ?_ ?_ ?_ ?_ ?_);(focus exact rfl);(focus exact rfl);iterate 2 (focus((try simp(disch:=omega) only[go_sem,aa,o,h,b1,b2,b3,b4,b5,b6,b7,b8])<;>(try omega)<;>fail)))|((first|refine zN hgn rfl ?_ ?_|refine zX hgc rfl ?_ ?_|refine zX hzc rfl ?_ ?_|refine zX hsp rfl ?_ ?_|refine zX hop rfl ?_ ?_|refine zX hgn rfl ?_ ?_|refine zY hgn ?_ ?_);(focus((try simp(disch:=omega) only[go_sem,aa,o,h,b1,b2,b3,b4,b5,b6,b7,b8])<;>(try omega)<;>fail)))|(refine aend_in (v:=?_) hKk (by first|exact .inl rfl|exact .inr rfl) ?_ ?_ ?_;rotate_left;(focus((try simp(disch:=omega) only[go_sem,aa,o,h,b1,b2,b3,b4,b5,b6,b7,b8])<;>(try omega)<;>fail));(focus((try simp(disch:=omega) only[go_sem,aa,o,h,b1,b2,b3,b4,b5,b6,b7,b8])<;>(first|done|exact rfl)));clear hKk Kk))<;>(try simp(disch:=omega) only[go_sem,aa,o,h,b1,b2,b3,b4,b5,b6,b7,b8])<;>(repeat' with_reducible refine Sg ?_ ?_)<;>(try(with_reducible refine hK _ ?_;clear hK K)))
|omega)
   all_goals first|(exfalso;omega)|(exact zEf dfl;done)
 ·skip
  rw[bG hq hx (by omega),e];have hsp:=split_c r.path hr.2.2.1;rw[h2] at hsp;have hop:=(open_c t r.session ht.1.2.2.1 hrs).re (congrArg B (decide_eq_true h3));have hgn:=kV t (splitP r.path).1.1 ht.1.2.1.1 hri;rw[h4] at hgn;have hse:=uS (splitP r.path).1.2 (aw t (splitP r.path).1.1).1.stat.cversion (by omega) hcv;generalize (dN (splitP r.path).1.2 (aw t (splitP r.path).1.1).1.stat.cversion).2=e1 at h5 hse ⊢;rcases h with h|h
  all_goals
   refine zJ Tryz.func105 Tryz.ntmps105 Tryz.results105 ?_;simp only[go_sem]
   (repeat' first
|(with_reducible refine AR.f ?_)
|(with_reducible refine AWP.cond rfl ?_ ?_<;>intro hc<;>(try simp only[hcs,RN,RY,RZ] at hc))
|(refine bL fun Kk hKk=>(cm df Tryz.func175 rfl (by kernel_rfl) (by simp[Tryz.ntmps175]) ?_);simp only[Tryz.ntmps175,Tryz.results175,Sx,gC,R1,RD,Nat.reduceAdd,Ry,RQ,go_sem])
|((first|((first|refine zP ((XE [0,1,2,3,4,6,7] (.fork 5 (XE [8,9,10,11] .done) 8 (XE [5,9,10,11] .done)))) ?_|(with_reducible first|refine zR ?_));intro K hK)|((first|refine zA hgc ?_ ?_ ?_ ?_ ?_|refine zA hzc ?_ ?_ ?_ ?_ ?_|refine zA hsp ?_ ?_ ?_ ?_ ?_|refine zA hop ?_ ?_ ?_ ?_ ?_|refine zA hgn ?_ ?_ ?_ ?_ ?_|refine zA hse ?_ ?_ ?_ ?_ ?_);(focus exact rfl);(focus exact rfl);iterate 2 (focus((try simp(disch:=omega) only[go_sem,aa,o,h,b1,b2,b3,b4,b5,b6,b7,b8])<;>(try omega)<;>fail)))|((first|refine zN hgn rfl ?_ ?_|refine zX hgc rfl ?_ ?_|refine zX hzc rfl ?_ ?_|refine zX hsp rfl ?_ ?_|refine zX hop rfl ?_ ?_|refine zX hgn rfl ?_ ?_|refine zY hgn ?_ ?_|refine zX hse rfl ?_ ?_);(focus((try simp(disch:=omega) only[go_sem,aa,o,h,b1,b2,b3,b4,b5,b6,b7,b8])<;>(try omega)<;>fail)))|(refine aend_in (v:=?_) hKk (by first|exact .inl rfl|exact .inr rfl) ?_ ?_ ?_;rotate_left;(focus((try simp(disch:=omega) only[go_sem,aa,o,h,b1,b2,b3,b4,b5,b6,b7,b8])<;>(try omega)<;>fail));(focus((try simp(disch:=omega) only[go_sem,aa,o,h,b1,b2,b3,b4,b5,b6,b7,b8])<;>(first|done|exact rfl)));clear hKk Kk))<;>(try simp(disch:=omega) only[go_sem,aa,o,h,b1,b2,b3,b4,b5,b6,b7,b8])<;>(repeat' with_reducible refine Sg ?_ ?_)<;>(try(with_reducible refine hK _ ?_;clear hK K)))
|omega)
   all_goals first|(exfalso;omega)|(exact zEf dfl;done)
 ·skip
  rw[bG hq hx (by omega),e];have hsp:=split_c r.path hr.2.2.1;rw[h2] at hsp;have hop:=(open_c t r.session ht.1.2.2.1 hrs).re (congrArg B (decide_eq_true h3));have hgn:=kV t (splitP r.path).1.1 ht.1.2.1.1 hri;rw[h4] at hgn;have hse:=uS (splitP r.path).1.2 (aw t (splitP r.path).1.1).1.stat.cversion (by omega) hcv;rw[h5] at hse;have hjo:=Kj (splitP r.path).1.1 (dN (splitP r.path).1.2 (aw t (splitP r.path).1.1).1.stat.cversion).1 (by unfold okS;omega) (by unfold okS;omega);generalize (dg (splitP r.path).1.1 (dN (splitP r.path).1.2 (aw t (splitP r.path).1.1).1.stat.cversion).1).2=e1 at h6 hjo ⊢;rcases h with h|h
  all_goals
   refine zJ Tryz.func105 Tryz.ntmps105 Tryz.results105 ?_;simp only[go_sem]
   (repeat' first
|(with_reducible refine AR.f ?_)
|(with_reducible refine AWP.cond rfl ?_ ?_<;>intro hc<;>(try simp only[hcs,RN,RY,RZ] at hc))
|(refine bL fun Kk hKk=>(cm df Tryz.func175 rfl (by kernel_rfl) (by simp[Tryz.ntmps175]) ?_);simp only[Tryz.ntmps175,Tryz.results175,Sx,gC,R1,RD,Nat.reduceAdd,Ry,RQ,go_sem])
|((first|((first|refine zP ((XE [0,1,2,3,4,6,7] (.fork 5 (XE [8,9,10,11] .done) 8 (XE [5,9,10,11] .done)))) ?_|(with_reducible first|refine zR ?_));intro K hK)|((first|refine zA hgc ?_ ?_ ?_ ?_ ?_|refine zA hzc ?_ ?_ ?_ ?_ ?_|refine zA hsp ?_ ?_ ?_ ?_ ?_|refine zA hop ?_ ?_ ?_ ?_ ?_|refine zA hgn ?_ ?_ ?_ ?_ ?_|refine zA hse ?_ ?_ ?_ ?_ ?_|refine zA hjo ?_ ?_ ?_ ?_ ?_);(focus exact rfl);(focus exact rfl);iterate 2 (focus((try simp(disch:=omega) only[go_sem,aa,o,h,b1,b2,b3,b4,b5,b6,b7,b8])<;>(try omega)<;>fail)))|((first|refine zN hgn rfl ?_ ?_|refine zX hgc rfl ?_ ?_|refine zX hzc rfl ?_ ?_|refine zX hsp rfl ?_ ?_|refine zX hop rfl ?_ ?_|refine zX hgn rfl ?_ ?_|refine zY hgn ?_ ?_|refine zX hse rfl ?_ ?_|refine zX hjo rfl ?_ ?_);(focus((try simp(disch:=omega) only[go_sem,aa,o,h,b1,b2,b3,b4,b5,b6,b7,b8])<;>(try omega)<;>fail)))|(refine aend_in (v:=?_) hKk (by first|exact .inl rfl|exact .inr rfl) ?_ ?_ ?_;rotate_left;(focus((try simp(disch:=omega) only[go_sem,aa,o,h,b1,b2,b3,b4,b5,b6,b7,b8])<;>(try omega)<;>fail));(focus((try simp(disch:=omega) only[go_sem,aa,o,h,b1,b2,b3,b4,b5,b6,b7,b8])<;>(first|done|exact rfl)));clear hKk Kk))<;>(try simp(disch:=omega) only[go_sem,aa,o,h,b1,b2,b3,b4,b5,b6,b7,b8])<;>(repeat' with_reducible refine Sg ?_ ?_)<;>(try(with_reducible refine hK _ ?_;clear hK K)))
|omega)
   all_goals first|(exfalso;omega)|(exact zEf dfl;done)
 ·rw[e] at hx
  have hsp:=split_c r.path hr.2.2.1;rw[h2] at hsp;have hop:=(open_c t r.session ht.1.2.2.1 hrs).re (congrArg B (decide_eq_true h3));have hgn:=kV t (splitP r.path).1.1 ht.1.2.1.1 hri;rw[h4] at hgn;have hse:=uS (splitP r.path).1.2 (aw t (splitP r.path).1.1).1.stat.cversion (by omega) hcv;rw[h5] at hse;have hjo:=Kj (splitP r.path).1.1 (dN (splitP r.path).1.2 (aw t (splitP r.path).1.1).1.stat.cversion).1 (by unfold okS;omega) (by unfold okS;omega);rw[h6] at hjo;rcases h with h|h
  ·skip
   have hcp:kH t r=(dg (splitP r.path).1.1 (dN (splitP r.path).1.2 (aw t (splitP r.path).1.1).1.stat.cversion).1).1:=by unfold kH;rw[Rx (by omega)];rfl
   have hco:kM r=0:=by unfold kM;rw[Rw (by omega)]
   rw[hcp,hco] at hx;have hxw:=cW (z:=z) ht hr hp hz;rw[hx] at hxw;simp only at hxw;have ha:=iA t ⟨z,3,r.session,(dg (splitP r.path).1.1 (dN (splitP r.path).1.2 (aw t (splitP r.path).1.1).1.stat.cversion).1).1,r.data,0,0⟩ ht.1 hxw.1.2.2.2.1 hxw.1.2.2.2.2.1;rw[dO hq hx];generalize ah t ⟨z,3,r.session,(dg (splitP r.path).1.1 (dN (splitP r.path).1.2 (aw t (splitP r.path).1.1).1.stat.cversion).1).1,r.data,0,0⟩=q at ha ⊢;obtain⟨a,es,e⟩:=q;simp only at ha ⊢;refine zJ Tryz.func105 Tryz.ntmps105 Tryz.results105 ?_;simp only[go_sem]
   (refine zW qw (zc DM (zc (ic Tryz.func175) (zc hgc (zc hzc (zc hsp (zc hop (z4 hgn hse hjo ha))))))) (zx @o (zx @h (zx @b1 (zx @b2 (zx @b3 (zx @b4 (zx @b5 (zx @b6 (zx @b7 @b8))))))))) (z2 ?_ ?_)<;>(repeat with_reducible intro hc))
   all_goals first
    |(exfalso;omega)
    |(rw[Rx (by omega)];exact zEf (zx @I.eq_1 @S.eq_1);done)
    |(rw[Rw (by omega)];exact zEf dfl;done)
  ·skip
   have hcp:kH t r=(dg (splitP r.path).1.1 (dN (splitP r.path).1.2 (aw t (splitP r.path).1.1).1.stat.cversion).1).1:=by unfold kH;rw[Rx (by omega)];rfl
   have hco:kM r=r.session:=by unfold kM;rw[Rx (by omega)]
   rw[hcp,hco] at hx;have hxw:=cW (z:=z) ht hr hp hz;rw[hx] at hxw;simp only at hxw;have ha:=iA t ⟨z,3,r.session,(dg (splitP r.path).1.1 (dN (splitP r.path).1.2 (aw t (splitP r.path).1.1).1.stat.cversion).1).1,r.data,0,r.session⟩ ht.1 hxw.1.2.2.2.1 hxw.1.2.2.2.2.1;rw[dO hq hx];generalize ah t ⟨z,3,r.session,(dg (splitP r.path).1.1 (dN (splitP r.path).1.2 (aw t (splitP r.path).1.1).1.stat.cversion).1).1,r.data,0,r.session⟩=q at ha ⊢;obtain⟨a,es,e⟩:=q;simp only at ha ⊢;refine zJ Tryz.func105 Tryz.ntmps105 Tryz.results105 ?_;simp only[go_sem]
   (refine zW qw (zc DM (zc (ic Tryz.func175) (zc hgc (zc hzc (zc hsp (zc hop (z4 hgn hse hjo ha))))))) (zx @o (zx @h (zx @b1 (zx @b2 (zx @b3 (zx @b4 (zx @b5 (zx @b6 (zx @b7 @b8))))))))) (z2 ?_ ?_)<;>(repeat with_reducible intro hc))
   all_goals first
    |(exfalso;omega)
    |(rw[Rx (by omega)];exact zEf (zx @I.eq_1 @S.eq_1);done)
    |(rw[Rw (by omega)];exact zEf dfl;done)
theorem yE:Pls [XE [0,1,2,4] (.fork 3 (XE [5,6,7] .done) 5 (XE [3,6,7] .done))]:=pls _
end Go.Proofs.YtjcooccnfkfjhaaGreatDoor
