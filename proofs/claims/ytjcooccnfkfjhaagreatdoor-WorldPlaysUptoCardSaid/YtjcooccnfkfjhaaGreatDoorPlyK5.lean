/- What the law leans on. No condition. -/
import Derived.Shelf.Strconv.Itoa3
import Derived.Test.YtjcooccnfkfjhaaGreatDoorProg
import Derived.KernelRfl
import Derived.Test.YtjcooccnfkfjhaaGreatDoorPlyK4
namespace Go.Proofs.YtjcooccnfkfjhaaGreatDoor
set_option maxHeartbeats 8000000
set_option linter.unusedVariables false
set_option linter.unusedSimpArgs false
open Go Go.RowKit Tryz
theorem Q1:Pls [XS [0,2,3] (.fork 1 (XS [4,5,6,7] .done) 4 (XS [1,5,6,7] .done)),XS [0,1,2,3,4,5,6,7,8,9,10,11,12,13,14,16,17] (.fork 15 (XS [18,19,20,21,22,23,24] .done) 18 (XS [19,20] (.fork 15 (XS [21,22,23,24] .done) 21 (XS [15,22,23,24] .done))))]:=pls _
attribute [go_sem] ntmps220 results220
set_option maxRecDepth 100000
theorem lc(z:Int)(ns:List XU)(ss:List Int)(key:List UInt8)(h:ns.length*88≤140737488351232)(hr:aF (pathsN ns))(hm:key∈pathsN ns):ab prog [] 163 [.agg [I z,.d (.sl 9 (ns.map XU.row)),.d (.sl 1 (ss.map aY))],S key] (ret (I (place (pathsN ns) key:Nat))):=
 (pY ⟨z,ns,ss⟩ key h hr).re (congrArg I (nv hm))
theorem mf(t:XW)(h:t.nodes.length*88≤140737488351232)(h2:t.sessions.length*8≤140737488351232):ab prog [] 217 [t.av] (dr (.agg [I t.zxid,.osl 0 9 0 t.nodes.length,.osl 1 1 0 t.sessions.length]) [.rows 9 (t.nodes.map XU.row),.rows 1 (t.sessions.map aY)]):=by
 refine zJ func217 ntmps217 results217 ?_;simp only[go_sem];refine zW qw zn Yj (z1 ?_)
 all_goals(refine zOp Yj ?_;simp(disch:=omega) only[go_sem,aa];refine Xc ?_ (af.same ⟨rfl,rfl⟩);refine zV [2,3] rfl rfl rfl rfl ?_ ?_<;>simp(disch:=omega) only[go_sem,aa,UC,UD])
def eN(l:List XU)(key:List UInt8):List XU:=l.filter fun f=>decide (f.path≠key)
theorem iG(l:List XU)(key:List UInt8)(k:Nat)(h:k<l.length):eN (l.take (k+1)) key=if(l.getD k default).path≠key then eN (l.take k) key++[l.getD k default] else eN (l.take k) key:=by
 unfold eN;rw[aN l k h,SA]
 by_cases e:(l.getD k default).path≠key
 ·rw[RJ e,S2 (by simpa using e)];rfl
 ·rw[RI e,SE (by simpa using e),S3,Se]
theorem ob{l:List XU}{key:List UInt8}(hr:aF (pathsN l))(h:key∈pathsN l):eN l key=l.eraseIdx (place (pathsN l) key):=by
 have hp:=ag hr h;generalize place (pathsN l) key=p at *
 have hpl:p<l.length:=by have:=hp.1;rwa[ao] at this
 have gd (j:Nat):(pathsN l).getD j []=(l.getD j default).path:=cW XU.path l j default
 have hne:∀ j,j<l.length→j≠p→(l.getD j default).path≠key:=fun j hj hjp e=>by
  have e1:(pathsN l).getD j []=key:=by rw[gd];exact e
  rcases TO hjp with h1|h1
  ·have:=aV hr h1 (by rw[ao];exact hpl);rw[e1,hp.2] at this;exact Sw _ this
  ·have:=aV hr h1 (by rw[ao];exact hj);rw[e1,hp.2] at this;exact Sw _ this
 have hpk:(l.getD p default).path=key:=by have:=hp.2;rwa[gd] at this
 have hs:l=l.take p++l.getD p default::l.drop (p+1):=by rw[RG,RH hpl];simp
 have h1:(l.take p).filter (fun f=>decide (f.path≠key))=l.take p:=by
  rw[SU];intro f hf;obtain⟨j,hj,rfl⟩:=ST.1 hf
  have:=hne j (by omega) (by omega);rw[RG,RH (by omega)] at this;simpa using this
 have h2:(l.drop (p+1)).filter (fun f=>decide (f.path≠key))=l.drop (p+1):=by
  rw[SU];intro f hf;obtain⟨j,hj,rfl⟩:=Te.1 hf
  have:=hne (p+1+j) (by omega) (by omega);rw[RG,RH (by omega)] at this;simpa using this
 rw[eQ];unfold eN
 conv=>lhs;rw[hs]
 rw[SA,SE (by simp only[hpk];simp),h1,h2]
theorem PK(z:Int)(ns:List XU)(ss:List Int)(es:List XZ)(x:ATxn)(p:List UInt8)(hl:ns.length≤400)(hss:ss.length*8≤140737488351232)(hes:es.length≤100000)(hp:p.length≤1048576)(hr:aF (pathsN ns))(hm:p∈pathsN ns)(hdir:dirP p∈pathsN ns)(hne:dirP p≠p) :
  ab prog [.cells [I z,.osl 1 9 0 ns.length,.osl 2 1 0 ss.length],.rows 9 (ns.map XU.row),.rows 1 (ss.map aY),.cells [.osl 4 2 0 es.length],.rows 2 (es.map XZ.row),.cells [.clo 220 [] [.ptr 0 0,.ptr 6 0,.ptr 3 0]],.cells [I x.zxid,I x.op,I x.session,S x.path,S x.data,I x.version,I x.owner]]
   221 [S p,.ptr 0 0,.ptr 3 0,.ptr 5 0]
   (dr (.tup []) [.cells [I z,.osl 7 9 0 (fA ns p x.zxid).length,.osl 2 1 0 ss.length],.dead,.rows 1 (ss.map aY),.cells [.osl 8 2 0 (es++eR p).length],.dead,.cells [.clo 220 [] [.ptr 0 0,.ptr 6 0,.ptr 3 0]],.cells [I x.zxid,I x.op,I x.session,S x.path,S x.data,I x.version,I x.owner],.rows 9 ((fA ns p x.zxid).map XU.row),.rows 2 ((es++eR p).map XZ.row)]):=by
 refine zJ func221 ntmps221 results221 ?_;simp only[go_sem];refine zW qw zn Yj (z1 ?_);refine Xa (Xf 5 9 rfl) ?_;simp only[go_sem];refine W9 (ι:=Nat) (fun k=>k≤ns.length) (fun k=>ns.length-k) [0,1,2,3,9,10] (fun k=>[(11,I k),(5,.osl 7 9 0 (eN (ns.take k) p).length)]) (fun k=>[.cells [I z,.osl 1 9 0 ns.length,.osl 2 1 0 ss.length],.rows 9 (ns.map XU.row),.rows 1 (ss.map aY),.cells [.osl 4 2 0 es.length],.rows 2 (es.map XZ.row),.cells [.clo 220 [] [.ptr 0 0,.ptr 6 0,.ptr 3 0]],.cells [I x.zxid,I x.op,I x.session,S x.path,S x.data,I x.version,I x.owner],.rows 9 ((eN (ns.take k) p).map XU.row)]) 0 ?_ ?_ ?_
 ·omega
 ·simp only[go_sem,eN,S3];exact zSm Yj
 intro k hk;have hol:(eN (ns.take k) p).length≤k:=R8 (SW _ _) (Tg _ _);simp only[go_sem]
 by_cases hkk:k<ns.length
 ·(refine zW qw zn (zx @XU.rgetD (zx @XU.rsnoc @ay)) (z2 ?_ ?_)<;>(repeat with_reducible intro hc))
  ·refine Zq (k+1) ?_
   rw[iG _ _ _ hkk,RJ hc];exact zFr [0,1,2,3,4,5,6,10] @List.length_append.{0}
  ·refine Zq (k+1) ?_
   rw[iG _ _ _ hkk,RI (by simpa using hc)];exact zFr [0,1,2,3,4,5,6,7] Yj
 obtain rfl:k=ns.length:=by omega
 clear hol hk;rw[R7,ob hr hm];have hpf:=ag hr hm;have hdpl2:place (pathsN ns) p<ns.length:=by have:=hpf.1;rwa[ao] at this
 have hadd0:fA ns p x.zxid=kj (ns.eraseIdx (place (pathsN ns) p)) p (-1) x.zxid:=rfl;rw[hadd0];have hlm0:=cP _ _ hdpl2;have hr10:=gi hr (place (pathsN ns) p);have hm10:dirP p∈(pathsN ns).eraseIdx (place (pathsN ns) p):=gP hdir (by rw[hpf.2];exact hne.symm);rw[←cq] at hr10 hm10;generalize ns.eraseIdx (place (pathsN ns) p)=ns1 at hlm0 hr10 hm10 ⊢;have hq:=(ag hr10 hm10).1;rw[ao] at hq;have hadd:kj ns1 p (-1) x.zxid=ns1.set (place (pathsN ns1) (dirP p)) (kidF (-1) x.zxid (ns1.getD (place (pathsN ns1) (dirP p)) default)):=by unfold kj;rw[RJ hm10]
 rw[hadd];have hf2:=lc z ns1 ss (dirP p) (by omega) hr10 hm10;generalize hn2:ns1.set (place (pathsN ns1) (dirP p)) (kidF (-1) x.zxid (ns1.getD (place (pathsN ns1) (dirP p)) default))=ns2;have hl2:ns2.length=ns1.length:=by rw[←hn2,R3]
 unfold kidF at hn2;have e1:(splitP p).1.1=dirP p:=rfl;have tk2:List.take ns1.length (ns2.map XU.row)=ns2.map XU.row:=RK (by rw[RO];omega);refine zW qw (z4 Q1 (ic func220) (bC p hp) hf2) (zx @e1 (zx @hn2 (zx @hl2 (zx @tk2 (zx @XU.rgetD (zx @bs (zx @XU.rset (zx @az (zx @List.set_set.{0} (zx @XZ.rsnoc (zx @ay @eE))))))))))) (z1 (fun hc=>?_))
 all_goals(refine zOp Yj ?_;simp(disch:=omega) only[go_sem,aa,eR,Sq,SB,Sx,hl2,RL,RQ,Sd,SX];refine Xc ?_ (af.same ⟨rfl,rfl⟩);refine zV [0,1,2,3,4,5,6,7,11] rfl rfl rfl rfl ?_ ?_<;>simp(disch:=omega) only[go_sem,aa,UC,UD,eR,Sq,SB,Sx,hl2,RL,RQ,Sd,SX])
theorem MH(z:Int)(ns:List XU)(ss:List Int)(x:ATxn)(p:List UInt8)(hl:ns.length≤400)(hss:ss.length*8≤140737488351232)(hp:p.length≤1048576)(hr:aF (pathsN ns))(hm:p∈pathsN ns)(hdir:dirP p∈pathsN ns)(hne:dirP p≠p) :
  ab prog [.cells [I z,.osl 1 9 0 ns.length,.osl 2 1 0 ss.length],.rows 9 (ns.map XU.row),.rows 1 (ss.map aY),.cells [.d (.sc (.slice none 0 0))],.cells [.clo 220 [] [.ptr 0 0,.ptr 5 0,.ptr 3 0]],.cells [I x.zxid,I x.op,I x.session,S x.path,S x.data,I x.version,I x.owner]]
   221 [S p,.ptr 0 0,.ptr 3 0,.ptr 4 0]
   (dr (.tup []) [.cells [I z,.osl 6 9 0 (fA ns p x.zxid).length,.osl 2 1 0 ss.length],.dead,.rows 1 (ss.map aY),.cells [.osl 7 2 0 (eR p).length],.cells [.clo 220 [] [.ptr 0 0,.ptr 5 0,.ptr 3 0]],.cells [I x.zxid,I x.op,I x.session,S x.path,S x.data,I x.version,I x.owner],.rows 9 ((fA ns p x.zxid).map XU.row),.rows 2 ((eR p).map XZ.row)]):=by
 refine zJ func221 ntmps221 results221 ?_;simp only[go_sem];refine zW qw zn Yj (z1 ?_);refine Xa (Xl 3 0 2 rfl rfl) ?_;simp only[go_sem];refine Xa (Xf 5 9 rfl) ?_;simp only[go_sem];refine W9 (ι:=Nat) (fun k=>k≤ns.length) (fun k=>ns.length-k) [0,1,2,3,9,10] (fun k=>[(11,I k),(5,.osl 7 9 0 (eN (ns.take k) p).length)]) (fun k=>[.cells [I z,.osl 1 9 0 ns.length,.osl 2 1 0 ss.length],.rows 9 (ns.map XU.row),.rows 1 (ss.map aY),.cells [.osl 6 2 0 0],.cells [.clo 220 [] [.ptr 0 0,.ptr 5 0,.ptr 3 0]],.cells [I x.zxid,I x.op,I x.session,S x.path,S x.data,I x.version,I x.owner],.rows 2 [],.rows 9 ((eN (ns.take k) p).map XU.row)]) 0 ?_ ?_ ?_
 ·omega
 ·simp only[go_sem,eN,S3];exact zSm Yj
 intro k hk;have hol:(eN (ns.take k) p).length≤k:=R8 (SW _ _) (Tg _ _);simp only[go_sem]
 by_cases hkk:k<ns.length
 ·(refine zW qw zn (zx @XU.rgetD (zx @XU.rsnoc @ay)) (z2 ?_ ?_)<;>(repeat with_reducible intro hc))
  ·refine Zq (k+1) ?_
   rw[iG _ _ _ hkk,RJ hc];exact zFr [0,1,2,3,4,5,6,10] @List.length_append.{0}
  ·refine Zq (k+1) ?_
   rw[iG _ _ _ hkk,RI (by simpa using hc)];exact zFr [0,1,2,3,4,5,6,7] Yj
 obtain rfl:k=ns.length:=by omega
 clear hol hk;rw[R7,ob hr hm];have hpf:=ag hr hm;have hdpl2:place (pathsN ns) p<ns.length:=by have:=hpf.1;rwa[ao] at this
 have hadd0:fA ns p x.zxid=kj (ns.eraseIdx (place (pathsN ns) p)) p (-1) x.zxid:=rfl;rw[hadd0];have hlm0:=cP _ _ hdpl2;have hr10:=gi hr (place (pathsN ns) p);have hm10:dirP p∈(pathsN ns).eraseIdx (place (pathsN ns) p):=gP hdir (by rw[hpf.2];exact hne.symm);rw[←cq] at hr10 hm10;generalize ns.eraseIdx (place (pathsN ns) p)=ns1 at hlm0 hr10 hm10 ⊢;have hq:=(ag hr10 hm10).1;rw[ao] at hq;have hadd:kj ns1 p (-1) x.zxid=ns1.set (place (pathsN ns1) (dirP p)) (kidF (-1) x.zxid (ns1.getD (place (pathsN ns1) (dirP p)) default)):=by unfold kj;rw[RJ hm10]
 rw[hadd];have hf2:=lc z ns1 ss (dirP p) (by omega) hr10 hm10;generalize hn2:ns1.set (place (pathsN ns1) (dirP p)) (kidF (-1) x.zxid (ns1.getD (place (pathsN ns1) (dirP p)) default))=ns2;have hl2:ns2.length=ns1.length:=by rw[←hn2,R3]
 unfold kidF at hn2;have e1:(splitP p).1.1=dirP p:=rfl;have hev1:([[.int .i64 2,.str p]]:List (List DV))++[[.int .i64 4,.str (dirP p)]]=(eR p).map XZ.row:=rfl;have hev2:([.int .i64 2,.str p]:List DV)::[[.int .i64 4,.str (dirP p)]]=(eR p).map XZ.row:=rfl;have tk2:List.take ns1.length (ns2.map XU.row)=ns2.map XU.row:=RK (by rw[RO];omega);refine zW qw (z4 Q1 (ic func220) (bC p hp) hf2) (zx @e1 (zx @hn2 (zx @hl2 (zx @tk2 (zx @XU.rgetD (zx @bs (zx @XU.rset (zx @az (zx @List.set_set.{0} (zx @hev1 (zx @hev2 @ay))))))))))) (z1 (fun hc=>?_))
 all_goals(refine zOp Yj ?_;simp(disch:=omega) only[go_sem,aa,hl2,eR,RQ,Sd];refine Xc ?_ (af.same ⟨rfl,rfl⟩);refine zV [0,1,2,3,4,5,7,11] rfl rfl rfl rfl ?_ ?_<;>simp(disch:=omega) only[go_sem,aa,UC,UD,hl2,eR,RQ,Sd])
theorem Q0:Pls [XS [0] (.fork 1 (XS [2,3,4] .done) 2 (XS [1,3,4] .done))]:=pls _
attribute [go_sem] ntmps218 results218
theorem Nb(z:Int)(ns:List XU)(ss:List Int)(key:List UInt8)(h:ns.length*88≤140737488351232)(hr:aF (pathsN ns))(hm:¬ key∈pathsN ns):ab prog [] 163 [.agg [I z,.d (.sl 9 (ns.map XU.row)),.d (.sl 1 (ss.map aY))],S key] (ret (I (-1))):=
 (pY ⟨z,ns,ss⟩ key h hr).re (congrArg I (nodeI_no hm))
theorem zv(t:XW)(x:ATxn)(hw:t.wf)(hps:∀ n,n∈t.nodes→n.path.length≤1048576)(hz:okI x.zxid)(hp:x.path.length≤1048576)(hd:okS x.data)(h0:bw t x=0)(o4:x.op=4):ab prog [] 157 [t.av,x.av] (ret (.tup [(ah t x).1.av,.d (.sl 2 ((ah t x).2.1.map XZ.row)),I (ah t x).2.2])):=by
 obtain⟨g1,g2,g3,g4,g5,g6,g7,g8⟩:=cm h0;obtain⟨h1,h2⟩:t.nodes.length*88≤140737488351232∧t.sessions.length*8≤140737488351232:=⟨hw.2.1.1,hw.2.2.1⟩;have hgc:=(cA t hw hps).re (congrArg B g1);have hxc:=(cZ x hz hp hd).re (congrArg I g2);have hcp:=mf t h1 h2;have h400:t.nodes.length≤400:=(cu g1).2.1;have hr:aF (pathsN t.nodes):=aE g1;have hsp:=bC x.path hp;have e1:(splitP x.path).1.1=dirP x.path:=rfl;have g3':¬ x.zxid≤t.zxid:=by omega
 have hoc:=(isOpen_c t x.session h2).re (congrArg B (decide_eq_true (g5 (by omega))));obtain⟨m1,m2⟩:=g7 o4;have hnr:x.path≠[47]:=(lN g2 (by omega)).2;obtain⟨m3,m4⟩:=yq g1 m1 hnr;have hn1:=lc t.zxid t.nodes t.sessions x.path h1 hr m1;have hn2:=lc t.zxid t.nodes t.sessions (dirP x.path) h1 hr m3;have hq:=(ag hr m1).1;rw[ao] at hq;have hk:(t.nodes.getD (place (pathsN t.nodes) x.path) default).stat.kids≤0:=by unfold aw at m2;rw[RJ m1] at m2;exact m2
 have hgo:=MH x.zxid t.nodes t.sessions x x.path h400 h2 hp hr m1 m3 m4;have hdone:(cG t x)=(⟨x.zxid,fA t.nodes x.path x.zxid,t.sessions⟩,eR x.path):=by unfold cG;rw[RI (by omega),RI (by omega),RI (by omega),RJ o4]
 have hln:(fA t.nodes x.path x.zxid).length≤400:=by unfold fA;rw[pl,cP _ _ hq];omega
 generalize fA t.nodes x.path x.zxid=ns2 at hgo hdone hln;rw[o4] at hgo;refine zJ func157 ntmps157 results157 ?_;simp only[go_sem];refine zW qw (zc hgc (zc hxc (zc hoc (zc hn1 (zc hn2 (z4 hsp hcp (ac [5,3,4,6,7,1] hgo) (ic func218))))))) (zx @o4 (zx @e1 @g3')) (z1 (fun hc hc hc hc hc hc hc hc hc hc hc hc hc=>?_));refine W9 (ι:=Nat) (fun k=>k≤ns2.length∧∀ j,j<k→dN (ns2.getD j default)=false) (fun k=>ns2.length-k) [4,7,15,16,404,405] (fun k=>[(406,I k)]) (fun k=>[.cells [.d (.int .i64 t.zxid),.d (.sl 9 (t.nodes.map XU.row)),.d (.sl 1 (t.sessions.map aY))],.cells [I x.zxid,I 4,I x.session,S x.path,S x.data,I x.version,I x.owner],.cells [I 0,.d (.sc (.slice none 0 0)),.d (.sc (.slice none 0 0))],.dead,.rows 1 (t.sessions.map aY),.cells [I x.zxid,.osl 8 9 0 ns2.length,.osl 4 1 0 t.sessions.length],.cells [.osl 9 2 0 (eR x.path).length],.cells [.clo 220 [] [.ptr 5 0,.ptr 1 0,.ptr 6 0]],.rows 9 (ns2.map XU.row),.rows 2 ((eR x.path).map XZ.row)]) 0 ?_ ?_ ?_
 ·exact⟨by omega,fun j hj=>by omega⟩
 ·simp only[go_sem];exact zSm Yj
 intro k ⟨hk,hk2⟩;simp only[go_sem]
 (refine zW qw (z2 Q0 (ic func218)) @XU.rgetD (z3 ?_ ?_ ?_)<;>(repeat with_reducible intro hc))
 ·have hbig:ns2.any dN=true:=T1.2 ⟨_,aZ ns2 k (by omega),by unfold dN;rw[RN];omega⟩
  rw[cU h0 (by rw[hdone];exact hbig)];exact zEe dfl
 ·refine⟨k+1,⟨by omega,fun j hj=>?_⟩,by omega,?_⟩
  ·by_cases e:j=k
   ·subst e;unfold dN;rw[RR];omega
   ·exact hk2 j (by omega)
  exact zFr [0,1,2,3,4,5,6,7,8,9] Yj
 all_goals
  have hbig:=(nS (l:=ns2) (fun j hj=>hk2 j (by omega))).1;rw[ez h0 (by rw[hdone];exact hbig),hdone];exact zEe (zx @I.eq_1 @S.eq_1)
theorem OE{t:XW}{x:ATxn}(h:bw t x=0)(o:x.op=5):x.version=(aw t x.path).1.stat.version+1:=by
 obtain⟨g1,g2,g3,g4,g5,g6,g7,g8⟩:=cm h;unfold bw at h;rw[RI (by simp[g1]),RI (fun h=>h g2),RI (by omega),RI (by omega),RI (fun h=>h (g5 (by omega))),RI (by omega),RI (by omega),RJ o] at h;split at h
 ·cases h
 ·rename_i q
  exact Sh fun e=>q ⟨h,e⟩
theorem z6(t:XW)(x:ATxn)(hw:t.wf)(hps:∀ n,n∈t.nodes→n.path.length≤1048576)(hz:okI x.zxid)(hp:x.path.length≤1048576)(hd:okS x.data)(h0:bw t x=0)(o5:x.op=5):ab prog [] 157 [t.av,x.av] (ret (.tup [(ah t x).1.av,.d (.sl 2 ((ah t x).2.1.map XZ.row)),I (ah t x).2.2])):=by
 obtain⟨g1,g2,g3,g4,g5,g6,g7,g8⟩:=cm h0;obtain⟨h1,h2⟩:t.nodes.length*88≤140737488351232∧t.sessions.length*8≤140737488351232:=⟨hw.2.1.1,hw.2.2.1⟩;have hgc:=(cA t hw hps).re (congrArg B g1);have hxc:=(cZ x hz hp hd).re (congrArg I g2);have hcp:=mf t h1 h2;have h400:t.nodes.length≤400:=(cu g1).2.1;have hr:aF (pathsN t.nodes):=aE g1;have hsp:=bC x.path hp;have e1:(splitP x.path).1.1=dirP x.path:=rfl;have g3':¬ x.zxid≤t.zxid:=by omega
 have hoc:=(isOpen_c t x.session h2).re (congrArg B (decide_eq_true (g5 (by omega))));have m1:=g8 o5;have hn1:=lc t.zxid t.nodes t.sessions x.path h1 hr m1;have hn2:=kV t.zxid t.nodes t.sessions (dirP x.path) h1 hr;have hq:=(ag hr m1).1;rw[ao] at hq;have hv:x.version=(t.nodes.getD (place (pathsN t.nodes) x.path) default).stat.version+1:=by have:=OE h0 o5;unfold aw at this;rw[RJ m1] at this;exact this
 have hvb:=((bi.1 g1).2.2.2 _ hq).1;unfold nd at hvb;obtain⟨v1,v2,_⟩:=hvb;have hdone:(cG t x)=(⟨x.zxid,setN t.nodes x,t.sessions⟩,[⟨3,x.path⟩]):=by unfold cG;rw[RI (by omega),RI (by omega),RI (by omega),RI (by omega)]
 have hadd:setN t.nodes x=t.nodes.set (place (pathsN t.nodes) x.path) (setF x (t.nodes.getD (place (pathsN t.nodes) x.path) default)):=rfl;rw[hadd] at hdone;generalize hn2':t.nodes.set (place (pathsN t.nodes) x.path) (setF x (t.nodes.getD (place (pathsN t.nodes) x.path) default))=ns2 at hdone;have hl2:ns2.length=t.nodes.length:=by rw[←hn2',R3]
 unfold setF at hn2';have tk2:List.take t.nodes.length (ns2.map XU.row)=ns2.map XU.row:=RK (by rw[RO];omega);refine zJ func157 ntmps157 results157 ?_;simp only[go_sem]
 (repeat' first
|(with_reducible refine AR.f ?_)
|refine bH (by decide) ?_
|(with_reducible refine AWP.cond rfl ?_ ?_<;>intro hc<;>(try simp only[hcs,R1,Sa,Sb] at hc))
|(refine bJ fun Kk hKk=>(cr dn func218 rfl (by kernel_rfl) (by simp[ntmps218]) ?_);simp only[ntmps218,results218,SK,gE,Sd,RQ,Nat.reduceAdd,RL,R3,go_sem])
|((first|((first|refine zP ((XS [0,1,2,3,4,5,7,9,10] (.forks 6 (.fork 8 (XS [11,12,13,14,15,16,17,18,19] .done) 11 (XS [12,13,14] (.fork 8 (XS [15,16,17,18,19] .done) 15 (XS [8,16,17,18,19] .done)))) 8 (.fork 6 (XS [11,12,13,14,15,16,17,18,19] .done) 11 (XS [6,12,13,14,15,16,17,18,19] .done)) 11 (XS [6,12,13,14] (.fork 8 (XS [15,16,17,18,19] .done) 15 (XS [8,16,17,18,19] .done)))))) ?_|(with_reducible first|refine zR ?_|refine zQ ?_|refine zD ?_|refine zE ?_|refine zG ?_));intro K hK)|((first|refine zA hgc ?_ ?_ ?_ ?_ ?_|refine zA hxc ?_ ?_ ?_ ?_ ?_|refine zA hoc ?_ ?_ ?_ ?_ ?_|refine zA hn1 ?_ ?_ ?_ ?_ ?_|refine zA hn2 ?_ ?_ ?_ ?_ ?_|refine zA hsp ?_ ?_ ?_ ?_ ?_);(focus exact rfl);(focus exact rfl);iterate 2 (focus((try simp(disch:=omega) only[go_sem,aa,o5,e1,g3',hn2',hl2,tk2,XU.rgetD,bs,XU.rset,az,TT])<;>(try omega)<;>fail)))|((first|refine zN hcp rfl ?_ ?_|refine zX hgc rfl ?_ ?_|refine zX hxc rfl ?_ ?_|refine zX hoc rfl ?_ ?_|refine zX hsp rfl ?_ ?_|refine zY hcp ?_ ?_);(focus((try simp(disch:=omega) only[go_sem,aa,o5,e1,g3',hn2',hl2,tk2,XU.rgetD,bs,XU.rset,az,TT])<;>(try omega)<;>fail)))|((first|refine zX hn1 rfl ?_ ?_);(focus((try simp(disch:=omega) only[go_sem,aa,o5,e1,g3',hn2',hl2,tk2,XU.rgetD,bs,XU.rset,az,TT])<;>(try omega)<;>fail)))|((first|refine zX hn2 rfl ?_ ?_);(focus((try simp(disch:=omega) only[go_sem,aa,o5,e1,g3',hn2',hl2,tk2,XU.rgetD,bs,XU.rset,az,TT])<;>(try omega)<;>fail)))|(refine aend_in (v:=?_) hKk (by first|exact .inl rfl|exact .inr rfl) ?_ ?_ ?_;rotate_left;(focus((try simp(disch:=omega) only[go_sem,aa,o5,e1,g3',hn2',hl2,tk2,XU.rgetD,bs,XU.rset,az,TT])<;>(try omega)<;>fail));(focus((try simp(disch:=omega) only[go_sem,aa,o5,e1,g3',hn2',hl2,tk2,XU.rgetD,bs,XU.rset,az,TT])<;>(first|done|exact rfl)));clear hKk Kk))<;>(try simp(disch:=omega) only[go_sem,aa,o5,e1,g3',hn2',hl2,tk2,XU.rgetD,bs,XU.rset,az,TT])<;>(repeat' with_reducible refine Su ?_ ?_)<;>(try(with_reducible refine hK _ ?_;clear hK K)))
|omega)
 all_goals
  refine W9 (ι:=Nat) (fun k=>k≤t.nodes.length∧∀ j,j<k→dN (ns2.getD j default)=false) (fun k=>t.nodes.length-k) [4,7,15,16,404,405] (fun k=>[(406,I k)]) (fun k=>[.cells [.d (.int .i64 t.zxid),.d (.sl 9 (t.nodes.map XU.row)),.d (.sl 1 (t.sessions.map aY))],.cells [I x.zxid,I 5,I x.session,S x.path,S x.data,I x.version,I x.owner],.cells [I 0,.d (.sc (.slice none 0 0)),.d (.sc (.slice none 0 0))],.rows 9 (ns2.map XU.row),.rows 1 (t.sessions.map aY),.cells [I x.zxid,.osl 3 9 0 t.nodes.length,.osl 4 1 0 t.sessions.length],.cells [.osl 9 2 0 1],.cells [.clo 220 [] [.ptr 5 0,.ptr 1 0,.ptr 6 0]],.rows 2 [[.int .i64 3,.str x.path]],.rows 2 [[.int .i64 3,.str x.path]]]) 0 ?_ ?_ ?_
  ·exact⟨by omega,fun j hj=>by omega⟩
  ·simp only[go_sem];exact zSm Yj
  intro k ⟨hk,hk2⟩;simp only[go_sem]
  (repeat' first
|(with_reducible refine AR.f ?_)
|refine bH (by decide) ?_
|(with_reducible refine AWP.cond rfl ?_ ?_<;>intro hc<;>(try simp only[hcs,R1,Sa,Sb] at hc))
|(refine bJ fun Kk hKk=>(cr dn func218 rfl (by kernel_rfl) (by simp[ntmps218]) ?_);simp only[ntmps218,results218,SK,gE,Sd,RQ,Nat.reduceAdd,RL,R3,go_sem])
|((first|((first|refine zP ((XS [0] (.fork 1 (XS [2,3,4] .done) 2 (XS [1,3,4] .done)))) ?_|(with_reducible first|refine zR ?_|refine zQ ?_|refine zD ?_|refine zE ?_|refine zG ?_));intro K hK)|(refine aend_in (v:=?_) hKk (by first|exact .inl rfl|exact .inr rfl) ?_ ?_ ?_;rotate_left;(focus((try simp(disch:=omega) only[go_sem,aa,XU.rgetD])<;>(try omega)<;>fail));(focus((try simp(disch:=omega) only[go_sem,aa,XU.rgetD])<;>(first|done|exact rfl)));clear hKk Kk))<;>(try simp(disch:=omega) only[go_sem,aa,XU.rgetD])<;>(repeat' with_reducible refine Su ?_ ?_)<;>(try(with_reducible refine hK _ ?_;clear hK K)))
|omega)
  ·have hbig:ns2.any dN=true:=T1.2 ⟨_,aZ ns2 k (by omega),by unfold dN;rw[RN];omega⟩
   rw[cU h0 (by rw[hdone];exact hbig)];exact zEe dfl
  ·refine⟨k+1,⟨by omega,fun j hj=>?_⟩,by omega,?_⟩
   ·by_cases e:j=k
    ·subst e;unfold dN;rw[RR];omega
    ·exact hk2 j (by omega)
   exact zFr [0,1,2,3,4,5,6,7,8,9] Yj
  all_goals
   have hbig:=(nS (l:=ns2) (fun j hj=>hk2 j (by omega))).1;rw[ez h0 (by rw[hdone];exact hbig),hdone];exact zEe (zx @I.eq_1 (zx @S.eq_1 @tk2))
theorem Rv:Pls [XS [0,2,3] (.fork 1 (XS [4,5,6,7] .done) 4 (XS [1,5,6,7] .done)),XS [0,1,2,3,4,5,6,7,8,9,10,11,12,13,14,16,17] (.fork 15 (XS [18,19,20,21,22,23,24] .done) 18 (XS [19,20] (.fork 15 (XS [21,22,23,24] .done) 21 (XS [15,22,23,24] .done))))]:=pls _
attribute [go_sem] ntmps218 results218 ntmps220 results220
def lU(l:List XU)(key:List UInt8):List XU:=l.filter fun f=>decide (f.path<key)
def iy(l:List XU)(key:List UInt8):List XU:=l.filter fun f=>decide (key<f.path)
theorem vM(l:List XU)(key:List UInt8)(k:Nat)(h:k<l.length):lU (l.take (k+1)) key=if(l.getD k default).path<key then lU (l.take k) key++[l.getD k default] else lU (l.take k) key:=by
 unfold lU;rw[aN l k h,SA]
 by_cases e:(l.getD k default).path<key
 ·rw[RJ e,S2 (by simpa using e)];rfl
 ·rw[RI e,SE (by simpa using e),S3,Se]
theorem vG(l:List XU)(key:List UInt8)(k:Nat)(h:k<l.length):iy (l.take (k+1)) key=if key<(l.getD k default).path then iy (l.take k) key++[l.getD k default] else iy (l.take k) key:=by
 unfold iy;rw[aN l k h,SA]
 by_cases e:key<(l.getD k default).path
 ·rw[RJ e,S2 (by simpa using e)];rfl
 ·rw[RI e,SE (by simpa using e),S3,Se]
theorem F4{l:List XU}{key:List UInt8}(hr:aF (pathsN l))(h:¬ key∈pathsN l)(n:XU):lU l key++n::iy l key=l.insertIdx (place (pathsN l) key) n:=by
 have hp:=eT (pathsN l) key;have lo:∀ j,j<place (pathsN l) key→(l.getD j default).path<key:=fun j hj=>by have:=Uh (p:=fun x=>!decide (x<key)) (xs:=pathsN l) hj;rw[←cW XU.path l j default];show(pathsN l).getD j []<key;rw[RG,RH (by omega)];simpa using this
 have hi:∀ j,place (pathsN l) key≤j→j<l.length→key<(l.getD j default).path:=fun j h1 h2=>by
  have a:¬ (pathsN l).getD (place (pathsN l) key) []<key:=by have:=UA (p:=fun x=>!decide (x<key)) (xs:=pathsN l) (w:=(by rw[ao];unfold place at h1;omega));rw[SY,RR] at this;rw[RG,RH (by rw[ao];omega)];exact this
  have b:key<(pathsN l).getD (place (pathsN l) key) []:=gN a fun e=>h (by rw[←e];exact bu _ _ (by rw[ao];omega))
  rw[←cW XU.path l j default];show key<(pathsN l).getD j []
  by_cases e:place (pathsN l) key=j
  ·rw[←e];exact b
  ·exact Tk b (aV hr (by omega) (by rw[ao];exact h2))
 rw[ao] at hp;generalize place (pathsN l) key=p at *
 have gd (j:Nat) (hj:j<l.length):l.getD j default=l[j]:=by rw[RG,RH hj];rfl
 have e1:lU l key=l.take p:=by
  unfold lU
  conv=>lhs;rw[←SN p l]
  rw[SA]
  have a1:(l.take p).filter (fun f=>decide (f.path<key))=l.take p:=by
   rw[SU];intro f hf;obtain⟨j,hj,rfl⟩:=ST.1 hf
   have:=lo j (by omega);rw[gd j (by omega)] at this;simpa using this
  have a2:(l.drop p).filter (fun f=>decide (f.path<key))=[]:=by
   rw[TH];intro f hf;obtain⟨j,hj,rfl⟩:=Te.1 hf
   have:=hi (p+j) (by omega) (by omega);rw[gd _ (by omega)] at this;rw[RN];exact fun h2=>Sw _ (Tk this h2)
  rw[a1,a2,Se]
 have e2:iy l key=l.drop p:=by
  unfold iy
  conv=>lhs;rw[←SN p l]
  rw[SA]
  have a1:(l.drop p).filter (fun f=>decide (key<f.path))=l.drop p:=by
   rw[SU];intro f hf;obtain⟨j,hj,rfl⟩:=Te.1 hf
   have:=hi (p+j) (by omega) (by omega);rw[gd _ (by omega)] at this;simpa using this
  have a2:(l.take p).filter (fun f=>decide (key<f.path))=[]:=by
   rw[TH];intro f hf;obtain⟨j,hj,rfl⟩:=ST.1 hf
   have:=lo j (by omega);rw[gd _ (by omega)] at this;rw[RN];exact fun h2=>Sw _ (Tk this h2)
  rw[a1,a2,Sx]
 rw[e1,e2,cT _ _ _ hp]
theorem IU{t:XW}{x:ATxn}(h:bw t x=0)(o:x.op=3):(t.nodes.getD (place (pathsN t.nodes) (dirP x.path)) default).stat.owner=0∧(x.owner=0∨x.owner=x.session):=by
 obtain⟨g1,g2,g3,g4,g5,g6,g7,g8⟩:=cm h;obtain⟨m1,m2,m3⟩:=g6 o;unfold bw at h;rw[RI (by simp[g1]),RI (fun h=>h g2),RI (by omega),RI (by omega),RI (fun h=>h (g5 (by omega))),RJ o] at h;unfold kZ at h;rw[RI (fun h=>m1 (fk.1 h)),RI (fun h=>h (fk.2 m2))] at h;have e:(aw t (splitP x.path).1.1).1=t.nodes.getD (place (pathsN t.nodes) (dirP x.path)) default:=by show(aw t (dirP x.path)).1=_;unfold aw;rw[RJ m2];rfl
 rw[e] at h;split at h
 ·cases h
 ·rename_i q1
  split at h
  ·cases h
  ·rename_i q2;exact⟨by omega,by omega⟩
theorem yK(t:XW)(x:ATxn)(hw:t.wf)(hps:∀ n,n∈t.nodes→n.path.length≤1048576)(hz:okI x.zxid)(hp:x.path.length≤1048576)(hd:okS x.data)(h0:bw t x=0)(o3:x.op=3):ab prog [] 157 [t.av,x.av] (ret (.tup [(ah t x).1.av,.d (.sl 2 ((ah t x).2.1.map XZ.row)),I (ah t x).2.2])):=by
 obtain⟨g1,g2,g3,g4,g5,g6,g7,g8⟩:=cm h0;obtain⟨h1,h2⟩:t.nodes.length*88≤140737488351232∧t.sessions.length*8≤140737488351232:=⟨hw.2.1.1,hw.2.2.1⟩;have hgc:=(cA t hw hps).re (congrArg B g1);have hxc:=(cZ x hz hp hd).re (congrArg I g2);have hcp:=mf t h1 h2;have h400:t.nodes.length≤400:=(cu g1).2.1;have hr:aF (pathsN t.nodes):=aE g1;have hsp:=bC x.path hp;have e1:(splitP x.path).1.1=dirP x.path:=rfl;have g3':¬ x.zxid≤t.zxid:=by omega
 have hoc:=(isOpen_c t x.session h2).re (congrArg B (decide_eq_true (g5 (by omega))));obtain⟨m1,m2,hlt⟩:=g6 o3;have hn1:=Nb t.zxid t.nodes t.sessions x.path h1 hr m1;have hn2:=lc t.zxid t.nodes t.sessions (dirP x.path) h1 hr m2;have hq0:=(ag hr m2).1;rw[ao] at hq0;have hlk:=IU h0 o3;obtain⟨k1,k2⟩:=hlk;refine zJ func157 ntmps157 results157 ?_;simp only[go_sem];refine zW qw (zc hgc (zc hxc (zc hoc (zc hn1 (z4 hn2 hsp hcp (ic func218)))))) (zx @o3 (zx @e1 @g3')) (z1 (fun hc hc hc hc hc hc hc hc hc hc hc hc hc hc=>?_));refine Xa (Xf 30 9 rfl) ?_;simp only[go_sem];refine W9 (ι:=Nat) (fun k=>k≤t.nodes.length) (fun k=>t.nodes.length-k) [3,4,7,15,16,17,29,319,320] (fun k=>[(321,I k),(30,.osl 9 9 0 (lU (t.nodes.take k) x.path).length)]) (fun k=>[.cells [.d (.int .i64 t.zxid),.d (.sl 9 (t.nodes.map XU.row)),.d (.sl 1 (t.sessions.map aY))],.cells [I x.zxid,I 3,I x.session,S x.path,S x.data,I x.version,I x.owner],.cells [I 0,.d (.sc (.slice none 0 0)),.d (.sc (.slice none 0 0))],.rows 9 (t.nodes.map XU.row),.rows 1 (t.sessions.map aY),.cells [I x.zxid,.osl 3 9 0 t.nodes.length,.osl 4 1 0 t.sessions.length],.cells [.d (.sc (.slice none 0 0))],.cells [.clo 220 [] [.ptr 5 0,.ptr 1 0,.ptr 6 0]],.cells [S x.path,S x.data,I x.zxid,I x.zxid,I x.zxid,I 0,I 0,I x.owner,I 0],.rows 9 ((lU (t.nodes.take k) x.path).map XU.row)]) 0 ?_ ?_ ?_
 ·omega
 ·simp only[go_sem,lU,S3];(refine ax.same ?_;simp(disch:=omega) only[go_sem,aa,Ss])
 intro k hk;have hol:(lU (t.nodes.take k) x.path).length≤k:=R8 (SW _ _) (Tg _ _);simp only[go_sem]
 by_cases hkk:k<t.nodes.length
 ·(refine zW qw zn (zx @XU.rgetD (zx @XU.rsnoc (zx @ay @ey))) (z2 ?_ ?_)<;>(repeat with_reducible intro hc))
  ·refine Zq (k+1) ?_
   rw[vM _ _ _ hkk,RJ hc]
   (refine zV [0,1,2,3,4,5,6,7,8,12] rfl rfl rfl rfl ?_ ?_<;>simp(disch:=omega) only[go_sem,aa,Ss,RL]<;>(try rfl))
  ·refine Zq (k+1) ?_
   rw[vM _ _ _ hkk,RI (by simpa using hc)]
   (refine zV [0,1,2,3,4,5,6,7,8,9] rfl rfl rfl rfl ?_ ?_<;>simp(disch:=omega) only[go_sem,aa,Ss]<;>(try rfl))
 obtain rfl:k=t.nodes.length:=by omega
 rw[R7] at hol ⊢;have hlm:=F4 hr m1 (mkN x);generalize lU t.nodes x.path=l1 at hol hlm ⊢;refine zW qw zn (zx @XU.rsnoc @ay) (z1 (fun hc=>?_));refine W9 (ι:=Nat) (fun k=>k≤t.nodes.length) (fun k=>t.nodes.length-k) [3,4,7,15,16,17,340,341] (fun k=>[(342,I k),(30,.osl 11 9 0 (l1++(⟨x.path,x.data,⟨x.zxid,x.zxid,x.zxid,0,0,x.owner,0⟩⟩:XU)::iy (t.nodes.take k) x.path).length)]) (fun k=>[.cells [.d (.int .i64 t.zxid),.d (.sl 9 (t.nodes.map XU.row)),.d (.sl 1 (t.sessions.map aY))],.cells [I x.zxid,I 3,I x.session,S x.path,S x.data,I x.version,I x.owner],.cells [I 0,.d (.sc (.slice none 0 0)),.d (.sc (.slice none 0 0))],.rows 9 (t.nodes.map XU.row),.rows 1 (t.sessions.map aY),.cells [I x.zxid,.osl 3 9 0 t.nodes.length,.osl 4 1 0 t.sessions.length],.cells [.d (.sc (.slice none 0 0))],.cells [.clo 220 [] [.ptr 5 0,.ptr 1 0,.ptr 6 0]],.cells [S x.path,S x.data,I x.zxid,I x.zxid,I x.zxid,I 0,I 0,I x.owner,I 0],.dead,.rows 9 [[.str x.path,.str x.data,.int .i64 x.zxid,.int .i64 x.zxid,.int .i64 x.zxid,.int .i64 0,.int .i64 0,.int .i64 x.owner,.int .i64 0]],.rows 9 ((l1++(⟨x.path,x.data,⟨x.zxid,x.zxid,x.zxid,0,0,x.owner,0⟩⟩:XU)::iy (t.nodes.take k) x.path).map XU.row)]) 0 ?_ ?_ ?_
 ·omega
 ·simp only[go_sem,iy,S3,RL,RQ,Sd];(refine ax.same ?_;simp(disch:=omega) only[go_sem,aa,Ss])
 intro k hk;have hol2:(iy (t.nodes.take k) x.path).length≤k:=R8 (SW _ _) (Tg _ _);have hLl:(l1++(⟨x.path,x.data,⟨x.zxid,x.zxid,x.zxid,0,0,x.owner,0⟩⟩:XU)::iy (t.nodes.take k) x.path).length≤1000:=by rw[RL,RQ];omega
 generalize hL:(l1++(⟨x.path,x.data,⟨x.zxid,x.zxid,x.zxid,0,0,x.owner,0⟩⟩:XU)::iy (t.nodes.take k) x.path)=L at hLl ⊢;simp only[go_sem]
 by_cases hkk:k<t.nodes.length
 ·(refine zW qw zn (zx @XU.rgetD (zx @XU.rsnoc (zx @ay @ey))) (z2 ?_ ?_)<;>(repeat with_reducible intro hc))
  ·refine Zq (k+1) ?_
   have hn:l1++(⟨x.path,x.data,⟨x.zxid,x.zxid,x.zxid,0,0,x.owner,0⟩⟩:XU)::iy (t.nodes.take (k+1)) x.path=L++[t.nodes.getD k default]:=by rw[vG _ _ _ hkk,RJ (gN hc.1 hc.2),←hL];simp
   have hnl:l1.length+((iy (t.nodes.take (k+1)) x.path).length+1)=L.length+1:=by have:=congrArg List.length hn;simpa using this
   rw[hn]
   (refine zV [0,1,2,3,4,5,6,7,8,9,10,14] rfl rfl rfl rfl ?_ ?_<;>simp(disch:=omega) only[go_sem,aa,Ss,RL,hnl]<;>(try rfl))
  ·refine Zq (k+1) ?_
   have hnc:¬ x.path<(t.nodes.getD k default).path:=fun h=>by
    rcases hc with h2|h2
    ·exact Sw _ (Tk h h2)
    ·rw[h2] at h;exact Sw _ h
   rw[vG _ _ _ hkk,RI hnc,hL];have hnl:l1.length+((iy (t.nodes.take k) x.path).length+1)=L.length:=by have:=congrArg List.length hL;simpa using this
   (refine zV [0,1,2,3,4,5,6,7,8,9,10,11] rfl rfl rfl rfl ?_ ?_<;>simp(disch:=omega) only[go_sem,aa,Ss,hnl]<;>(try rfl))
 obtain rfl:k=t.nodes.length:=by omega
 rw[R7] at hL hol2;have hLi:t.nodes.insertIdx (place (pathsN t.nodes) x.path) (mkN x)=L:=by rw[←hL,←hlm];rfl
 clear hL hlm;have hpl2:place (pathsN t.nodes) x.path≤t.nodes.length:=by have:=eT (pathsN t.nodes) x.path;rwa[ao] at this
 have hdone:(cG t x)=(⟨x.zxid,qk t.nodes x,t.sessions⟩,[⟨1,x.path⟩,⟨4,dirP x.path⟩]):=by unfold cG;rw[RI (by omega),RI (by omega),RJ o3]
 have hl1:L.length=t.nodes.length+1:=by rw[←hLi,dD _ _ _ hpl2]
 have hp1:pathsN L=(pathsN t.nodes).insertIdx (place (pathsN t.nodes) x.path) x.path:=by rw[←hLi,lH];rfl
 have hr1:aF (pathsN L):=by rw[hp1];exact nk hr m1
 have hm1:dirP x.path∈pathsN L:=by rw[hp1,yt (by rw[ao];exact hpl2)];exact .inr m2
 have hq:=(ag hr1 hm1).1;rw[ao] at hq;have hadd:qk t.nodes x=L.set (place (pathsN L) (dirP x.path)) (kidF 1 x.zxid (L.getD (place (pathsN L) (dirP x.path)) default)):=by unfold qk kj;rw[hLi,RJ hm1]
 have hf2:=lc x.zxid L t.sessions (dirP x.path) (by omega) hr1 hm1;rw[hadd] at hdone;generalize hn2':L.set (place (pathsN L) (dirP x.path)) (kidF 1 x.zxid (L.getD (place (pathsN L) (dirP x.path)) default))=ns2 at hdone;have hl2:ns2.length=L.length:=by rw[←hn2',R3]
 unfold kidF at hn2';have tk2:List.take L.length (ns2.map XU.row)=ns2.map XU.row:=RK (by rw[RO];omega);refine zW qw (z4 Rv (ic func220) hsp hf2) (zx @e1 (zx @hn2' (zx @hl2 (zx @tk2 (zx @XU.rgetD (zx @bs (zx @XU.rset (zx @az (zx @List.set_set.{0} @ay))))))))) (z1 (fun hc=>?_))
 all_goals
  refine W9 (ι:=Nat) (fun k=>k≤L.length∧∀ j,j<k→dN (ns2.getD j default)=false) (fun k=>L.length-k) [4,7,15,16,404,405] (fun k=>[(406,I k)]) (fun k=>[.cells [.d (.int .i64 t.zxid),.d (.sl 9 (t.nodes.map XU.row)),.d (.sl 1 (t.sessions.map aY))],.cells [I x.zxid,I 3,I x.session,S x.path,S x.data,I x.version,I x.owner],.cells [I 0,.d (.sc (.slice none 0 0)),.d (.sc (.slice none 0 0))],.rows 9 (t.nodes.map XU.row),.rows 1 (t.sessions.map aY),.cells [I x.zxid,.osl 11 9 0 L.length,.osl 4 1 0 t.sessions.length],.cells [.osl 15 2 0 2],.cells [.clo 220 [] [.ptr 5 0,.ptr 1 0,.ptr 6 0]],.cells [S x.path,S x.data,I x.zxid,I x.zxid,I x.zxid,I 0,I 0,I x.owner,I 0],.dead,.rows 9 [[.str x.path,.str x.data,.int .i64 x.zxid,.int .i64 x.zxid,.int .i64 x.zxid,.int .i64 0,.int .i64 0,.int .i64 x.owner,.int .i64 0]],.rows 9 (ns2.map XU.row),.rows 2 [[.int .i64 1,.str x.path]],.dead,.rows 2 [[.int .i64 4,.str (dirP x.path)]],.rows 2 [[.int .i64 1,.str x.path],[.int .i64 4,.str (dirP x.path)]]]) 0 ?_ ?_ ?_
  ·exact⟨by omega,fun j hj=>by omega⟩
  ·simp only[go_sem];(refine ax.same ?_;simp(disch:=omega) only[go_sem,aa,Ss])
  intro k ⟨hk,hk2⟩;simp only[go_sem]
  (repeat' first
|(with_reducible refine AR.f ?_)
|(with_reducible refine AWP.cond rfl ?_ ?_<;>intro hc<;>(try simp only[hcs,R1,Sa,Sb] at hc))
|(refine bJ fun Kk hKk=>(cr dn func218 rfl (by kernel_rfl) (by simp[ntmps218]) ?_);simp only[ntmps218,results218,SK,gE,Sd,RQ,Nat.reduceAdd,RL,R3,go_sem])
|((first|((first|refine zP ((XS [0] (.fork 1 (XS [2,3,4] .done) 2 (XS [1,3,4] .done)))) ?_|(with_reducible first|refine zR ?_));intro K hK)|(refine aend_in (v:=?_) hKk (by first|exact .inl rfl|exact .inr rfl) ?_ ?_ ?_;rotate_left;(focus((try simp(disch:=omega) only[go_sem,aa,XU.rgetD])<;>(try omega)<;>fail));(focus((try simp(disch:=omega) only[go_sem,aa,XU.rgetD])<;>(first|done|exact rfl)));clear hKk Kk))<;>(try simp(disch:=omega) only[go_sem,aa,XU.rgetD])<;>(repeat' with_reducible refine Su ?_ ?_)<;>(try(with_reducible refine hK _ ?_;clear hK K)))
|omega)
  ·have hbig:ns2.any dN=true:=T1.2 ⟨_,aZ ns2 k (by omega),by unfold dN;rw[RN];omega⟩
   rw[cU h0 (by rw[hdone];exact hbig)]
   (refine zF rfl ?_ ?_ ?_ ?_;(iterate 3 (focus((try simp(disch:=omega) only[go_sem,aa,default])<;>(try omega)<;>fail)));(try simp(disch:=omega) only[go_sem,aa,default,I,B,S,zj]))
  ·refine⟨k+1,⟨by omega,fun j hj=>?_⟩,by omega,?_⟩
   ·by_cases e:j=k
    ·subst e;unfold dN;rw[RR];omega
    ·exact hk2 j (by omega)
   (refine zV [0,1,2,3,4,5,6,7,8,9,10,11,12,13,14,15] rfl rfl rfl rfl ?_ ?_<;>simp(disch:=omega) only[go_sem,aa,Ss]<;>(try rfl))
  all_goals
   have hbig:=(nS (l:=ns2) (fun j hj=>hk2 j (by omega))).1;rw[ez h0 (by rw[hdone];exact hbig),hdone]
   (refine zF rfl ?_ ?_ ?_ ?_;(iterate 3 (focus((try simp(disch:=omega) only[go_sem,aa,I,S,tk2])<;>(try omega)<;>fail)));(try simp(disch:=omega) only[go_sem,aa,I,S,tk2,I,B,S,zj]))
theorem Qr:Pls [XS [0] (.fork 1 (XS [2,3,4] .done) 2 (XS [1,3,4] .done))]:=pls _
attribute [go_sem] ntmps218 results218
theorem jf(l:List Int)(x:Int):l.map aY++[[.int .i64 x]]=(l++[x]).map aY:=by rw[Sn];rfl
def lZ(l:List Int)(key:Int):List Int:=l.filter fun s=>decide (s<key)
def ix(l:List Int)(key:Int):List Int:=l.filter fun s=>decide (key<s)
theorem vj(l:List Int)(key:Int)(k:Nat)(h:k<l.length):lZ (l.take (k+1)) key=if l.getD k default<key then lZ (l.take k) key++[l.getD k default] else lZ (l.take k) key:=by
 unfold lZ;rw[aN l k h,SA]
 by_cases e:l.getD k default<key
 ·rw[RJ e,S2 (by simpa using e)];rfl
 ·rw[RI e,SE (by simpa using e),S3,Se]
theorem tF(l:List Int)(key:Int)(k:Nat)(h:k<l.length):ix (l.take (k+1)) key=if key<l.getD k default then ix (l.take k) key++[l.getD k default] else ix (l.take k) key:=by
 unfold ix;rw[aN l k h,SA]
 by_cases e:key<l.getD k default
 ·rw[RJ e,S2 (by simpa using e)];rfl
 ·rw[RI e,SE (by simpa using e),S3,Se]
theorem vP{l:List Int}{key:Int}(hr:fw l)(h:¬ key∈l):lZ l key++key::ix l key=l.insertIdx (bf l key) key:=by
 have hp:bf l key≤l.length:=TF;have gd (j:Nat) (hj:j<l.length):l.getD j default=l[j]:=by rw[RG,RH hj];rfl
 have lo:∀ j,j<bf l key→l.getD j default<key:=fun j hj=>by have:=Uh (p:=fun x=>!decide (x<key)) (xs:=l) hj;rw[gd j (by omega)];simpa using this
 have hi:∀ j,bf l key≤j→j<l.length→key<l.getD j default:=fun j h1 h2=>by
  have a:¬ l.getD (bf l key) default<key:=by have:=UA (p:=fun x=>!decide (x<key)) (xs:=l) (w:=(by unfold bf at h1;omega));rw[SY,RR] at this;rw[gd _ (by omega)];exact this
  have c:l.getD (bf l key) default≠key:=fun e=>h (by rw[←e];exact bu _ _ (by omega))
  by_cases e:bf l key=j
  ·rw[←e];omega
  ·have:=fe hr (i:=bf l key) (j:=j) (by omega) h2;omega
 generalize bf l key=p at *
 have e1:lZ l key=l.take p:=by
  unfold lZ
  conv=>lhs;rw[←SN p l]
  rw[SA]
  have a1:(l.take p).filter (fun s=>decide (s<key))=l.take p:=by
   rw[SU];intro f hf;obtain⟨j,hj,rfl⟩:=ST.1 hf
   have:=lo j (by omega);rw[gd j (by omega)] at this;simpa using this
  have a2:(l.drop p).filter (fun s=>decide (s<key))=[]:=by
   rw[TH];intro f hf;obtain⟨j,hj,rfl⟩:=Te.1 hf
   have:=hi (p+j) (by omega) (by omega);rw[gd _ (by omega)] at this;rw[RN];omega
  rw[a1,a2,Se]
 have e2:ix l key=l.drop p:=by
  unfold ix
  conv=>lhs;rw[←SN p l]
  rw[SA]
  have a1:(l.drop p).filter (fun s=>decide (key<s))=l.drop p:=by
   rw[SU];intro f hf;obtain⟨j,hj,rfl⟩:=Te.1 hf
   have:=hi (p+j) (by omega) (by omega);rw[gd _ (by omega)] at this;simpa using this
  have a2:(l.take p).filter (fun s=>decide (key<s))=[]:=by
   rw[TH];intro f hf;obtain⟨j,hj,rfl⟩:=ST.1 hf
   have:=lo j (by omega);rw[gd _ (by omega)] at this;rw[RN];omega
  rw[a1,a2,Sx]
 rw[e1,e2,cT _ _ _ hp]
theorem yi(t:XW)(x:ATxn)(hw:t.wf)(hps:∀ n,n∈t.nodes→n.path.length≤1048576)(hz:okI x.zxid)(hp:x.path.length≤1048576)(hd:okS x.data)(h0:bw t x=0)(o1:x.op=1):ab prog [] 157 [t.av,x.av] (ret (.tup [(ah t x).1.av,.d (.sl 2 ((ah t x).2.1.map XZ.row)),I (ah t x).2.2])):=by
 obtain⟨g1,g2,g3,g4,g5,g6,g7,g8⟩:=cm h0;obtain⟨h1,h2⟩:t.nodes.length*88≤140737488351232∧t.sessions.length*8≤140737488351232:=⟨hw.2.1.1,hw.2.2.1⟩;have hgc:=(cA t hw hps).re (congrArg B g1);have hxc:=(cZ x hz hp hd).re (congrArg I g2);have hcp:=mf t h1 h2;have h400:t.nodes.length≤400:=(cu g1).2.1;have hr:aF (pathsN t.nodes):=aE g1;have hsp:=bC x.path hp;have e1:(splitP x.path).1.1=dirP x.path:=rfl;have g3':¬ x.zxid≤t.zxid:=by omega
 have m1:=g4 o1;have hoc:=(isOpen_c t x.session h2).re (congrArg B (R0 m1));have hn1:=kV t.zxid t.nodes t.sessions x.path h1 hr;have hn2:=kV t.zxid t.nodes t.sessions (dirP x.path) h1 hr;have hri:fw t.sessions:=gh g1;have hss:t.sessions.length≤2147483647:=mA g1;have hdone:(cG t x)=(⟨x.zxid,t.nodes,t.sessions.insertIdx (bf t.sessions x.session) x.session⟩,[]):=by unfold cG;rw[RJ o1]
 refine zJ func157 ntmps157 results157 ?_;simp only[go_sem];refine zW qw (zc hgc (zc hxc (zc hoc (zc hn1 (z4 hn2 hsp hcp (ic func218)))))) (zx @o1 (zx @e1 @g3')) (z1 (fun hc hc hc hc hc hc hc hc hc=>?_));refine Xa (Xf 19 1 rfl) ?_;simp only[go_sem];refine W9 (ι:=Nat) (fun k=>k≤t.sessions.length) (fun k=>t.sessions.length-k) [2,3,4,7,15,16,226,227] (fun k=>[(228,I k),(19,.osl 8 1 0 (lZ (t.sessions.take k) x.session).length)]) (fun k=>[.cells [.d (.int .i64 t.zxid),.d (.sl 9 (t.nodes.map XU.row)),.d (.sl 1 (t.sessions.map aY))],.cells [I x.zxid,I 1,I x.session,S x.path,S x.data,I x.version,I x.owner],.cells [I 0,.d (.sc (.slice none 0 0)),.d (.sc (.slice none 0 0))],.rows 9 (t.nodes.map XU.row),.rows 1 (t.sessions.map aY),.cells [I x.zxid,.osl 3 9 0 t.nodes.length,.osl 4 1 0 t.sessions.length],.cells [.d (.sc (.slice none 0 0))],.cells [.clo 220 [] [.ptr 5 0,.ptr 1 0,.ptr 6 0]],.rows 1 ((lZ (t.sessions.take k) x.session).map aY)]) 0 ?_ ?_ ?_
 ·omega
 ·simp only[go_sem,lZ,S3];exact zSm Yj
 intro k hk;have hol:(lZ (t.sessions.take k) x.session).length≤k:=R8 (SW _ _) (Tg _ _);simp only[go_sem]
 by_cases hkk:k<t.sessions.length
 ·(refine zW qw zn (zx @jf @ay) (z2 ?_ ?_)<;>(repeat with_reducible intro hc))
  ·refine Zq (k+1) ?_
   rw[vj _ _ _ hkk,RJ hc];exact zFr [0,1,2,3,4,5,6,7,10] @List.length_append.{0}
  ·refine Zq (k+1) ?_
   rw[vj _ _ _ hkk,RI (by omega)];exact zFr [0,1,2,3,4,5,6,7,8] Yj
 obtain rfl:k=t.sessions.length:=by omega
 rw[R7] at hol ⊢;have hlm:=vP hri m1;generalize lZ t.sessions x.session=l1 at hol hlm ⊢;refine zW qw zn (zx @jf @ay) (z1 (fun hc=>?_));refine W9 (ι:=Nat) (fun k=>k≤t.sessions.length) (fun k=>t.sessions.length-k) [3,4,7,15,16,247,248] (fun k=>[(249,I k),(19,.osl 10 1 0 (l1++x.session::ix (t.sessions.take k) x.session).length)]) (fun k=>[.cells [.d (.int .i64 t.zxid),.d (.sl 9 (t.nodes.map XU.row)),.d (.sl 1 (t.sessions.map aY))],.cells [I x.zxid,I 1,I x.session,S x.path,S x.data,I x.version,I x.owner],.cells [I 0,.d (.sc (.slice none 0 0)),.d (.sc (.slice none 0 0))],.rows 9 (t.nodes.map XU.row),.rows 1 (t.sessions.map aY),.cells [I x.zxid,.osl 3 9 0 t.nodes.length,.osl 4 1 0 t.sessions.length],.cells [.d (.sc (.slice none 0 0))],.cells [.clo 220 [] [.ptr 5 0,.ptr 1 0,.ptr 6 0]],.dead,.rows 1 [[.int .i64 x.session]],.rows 1 ((l1++x.session::ix (t.sessions.take k) x.session).map aY)]) 0 ?_ ?_ ?_
 ·omega
 ·simp only[go_sem,ix,S3,RL,RQ,Sd];exact zSm Yj
 intro k hk;have hol2:(ix (t.sessions.take k) x.session).length≤k:=R8 (SW _ _) (Tg _ _);have hLl:(l1++x.session::ix (t.sessions.take k) x.session).length≤2*t.sessions.length+1:=by rw[RL,RQ];omega
 generalize hL:(l1++x.session::ix (t.sessions.take k) x.session)=L at hLl ⊢;simp only[go_sem]
 by_cases hkk:k<t.sessions.length
 ·(refine zW qw zn (zx @jf @ay) (z2 ?_ ?_)<;>(repeat with_reducible intro hc))
  ·refine Zq (k+1) ?_
   have hn:l1++x.session::ix (t.sessions.take (k+1)) x.session=L++[t.sessions.getD k default]:=by rw[tF _ _ _ hkk,RJ hc,←hL];simp
   have hnl:l1.length+((ix (t.sessions.take (k+1)) x.session).length+1)=L.length+1:=by have:=congrArg List.length hn;simpa using this
   rw[hn];exact zFr [0,1,2,3,4,5,6,7,8,9,12] (zx @List.length_append.{0} @hnl)
  ·refine Zq (k+1) ?_
   have hnl:l1.length+((ix (t.sessions.take k) x.session).length+1)=L.length:=by have:=congrArg List.length hL;simpa using this
   rw[tF _ _ _ hkk,RI (by omega),hL];exact zFr [0,1,2,3,4,5,6,7,8,9,10] @hnl
 obtain rfl:k=t.sessions.length:=by omega
 rw[R7] at hL hol2;rw[←hlm,hL] at hdone;clear hL hlm;refine zW qw zn Yj (z1 (fun hc=>?_));refine W9 (ι:=Nat) (fun k=>k≤t.nodes.length∧∀ j,j<k→dN (t.nodes.getD j default)=false) (fun k=>t.nodes.length-k) [4,7,15,16,404,405] (fun k=>[(406,I k)]) (fun k=>[.cells [.d (.int .i64 t.zxid),.d (.sl 9 (t.nodes.map XU.row)),.d (.sl 1 (t.sessions.map aY))],.cells [I x.zxid,I 1,I x.session,S x.path,S x.data,I x.version,I x.owner],.cells [I 0,.d (.sc (.slice none 0 0)),.d (.sc (.slice none 0 0))],.rows 9 (t.nodes.map XU.row),.rows 1 (t.sessions.map aY),.cells [I x.zxid,.osl 3 9 0 t.nodes.length,.osl 10 1 0 L.length],.cells [.d (.sc (.slice none 0 0))],.cells [.clo 220 [] [.ptr 5 0,.ptr 1 0,.ptr 6 0]],.dead,.rows 1 [[.int .i64 x.session]],.rows 1 (L.map aY)]) 0 ?_ ?_ ?_
 ·exact⟨by omega,fun j hj=>by omega⟩
 ·simp only[go_sem];exact zSm Yj
 intro k ⟨hk,hk2⟩;simp only[go_sem]
 (refine zW qw (z2 Qr (ic func218)) @XU.rgetD (z3 ?_ ?_ ?_)<;>(repeat with_reducible intro hc))
 ·have hbig:t.nodes.any dN=true:=T1.2 ⟨_,aZ t.nodes k (by omega),by unfold dN;rw[RN];omega⟩
  rw[cU h0 (by rw[hdone];exact hbig)];exact zEe dfl
 ·refine⟨k+1,⟨by omega,fun j hj=>?_⟩,by omega,?_⟩
  ·by_cases e:j=k
   ·subst e;unfold dN;rw[RR];omega
   ·exact hk2 j (by omega)
  exact zFr [0,1,2,3,4,5,6,7,8,9,10] Yj
 all_goals
  have hbig:=(nS (l:=t.nodes) (fun j hj=>hk2 j (by omega))).1;rw[ez h0 (by rw[hdone];exact hbig),hdone];exact zEe (zx @I.eq_1 @S.eq_1)
theorem Rn:Pls [XS [0] (.fork 1 (XS [2,3,4] .done) 2 (XS [1,3,4] .done))]:=pls _
attribute [go_sem] ntmps218 results218
def gZ(l:List Int)(key:Int):List Int:=l.filter fun s=>decide (s≠key)
theorem qe(l:List Int)(key:Int)(k:Nat)(h:k<l.length):gZ (l.take (k+1)) key=if l.getD k default≠key then gZ (l.take k) key++[l.getD k default] else gZ (l.take k) key:=by
 unfold gZ;rw[aN l k h,SA]
 by_cases e:l.getD k default≠key
 ·rw[RJ e,S2 (by simpa using e)];rfl
 ·rw[RI e,SE (by simpa using e),S3,Se]
theorem Dg{l:List Int}{key:Int}(hr:fw l)(h:key∈l):l.getD (bf l key) default=key:=by
 obtain⟨k,hk,e⟩:=List.mem_iff_getElem.1 h;have e2:l.getD k default=key:=by rw[RG,RH hk];exact e
 have:bf l key=k:=rr (by omega) (fun j hj=>by rw[←e2];exact fe hr hj hk) (fun _=>by rw[e2];omega);rw[this,e2]
theorem nY{l:List Int}{key:Int}(hr:fw l)(h:key∈l):gZ l key=l.eraseIdx (bf l key):=by
 have hpl:bf l key<l.length:=xw hr h;have hpk:l.getD (bf l key) default=key:=Dg hr h;generalize bf l key=p at *
 have hne:∀ j,j<l.length→j≠p→l.getD j default≠key:=fun j hj hjp e=>by
  rcases TO hjp with h1|h1
  ·have:=fe hr h1 hpl;omega
  ·have:=fe hr h1 hj;omega
 have hs:l=l.take p++l.getD p default::l.drop (p+1):=by rw[RG,RH hpl];simp
 have h1:(l.take p).filter (fun f=>decide (f≠key))=l.take p:=by
  rw[SU];intro f hf;obtain⟨j,hj,rfl⟩:=ST.1 hf
  have:=hne j (by omega) (by omega);rw[RG,RH (by omega)] at this;simpa using this
 have h2:(l.drop (p+1)).filter (fun f=>decide (f≠key))=l.drop (p+1):=by
  rw[SU];intro f hf;obtain⟨j,hj,rfl⟩:=Te.1 hf
  have:=hne (p+1+j) (by omega) (by omega);rw[RG,RH (by omega)] at this;simpa using this
 rw[eQ];unfold gZ
 conv=>lhs;rw[hs]
 rw[SA,SE (by simp only[hpk];simp),h1,h2]
theorem yp(t:XW)(x:ATxn)(hw:t.wf)(hps:∀ n,n∈t.nodes→n.path.length≤1048576)(hz:okI x.zxid)(hp:x.path.length≤1048576)(hd:okS x.data)(h0:bw t x=0)(o2:x.op=2):ab prog [] 157 [t.av,x.av] (ret (.tup [(ah t x).1.av,.d (.sl 2 ((ah t x).2.1.map XZ.row)),I (ah t x).2.2])):=by
 obtain⟨g1,g2,g3,g4,g5,g6,g7,g8⟩:=cm h0;obtain⟨h1,h2⟩:t.nodes.length*88≤140737488351232∧t.sessions.length*8≤140737488351232:=⟨hw.2.1.1,hw.2.2.1⟩;have hgc:=(cA t hw hps).re (congrArg B g1);have hxc:=(cZ x hz hp hd).re (congrArg I g2);have hcp:=mf t h1 h2;have h400:t.nodes.length≤400:=(cu g1).2.1;have hr:aF (pathsN t.nodes):=aE g1;have hsp:=bC x.path hp;have e1:(splitP x.path).1.1=dirP x.path:=rfl;have g3':¬ x.zxid≤t.zxid:=by omega
 have ms:=g5 (by omega);have hoc:=(isOpen_c t x.session h2).re (congrArg B (decide_eq_true ms));have hn1:=kV t.zxid t.nodes t.sessions x.path h1 hr;have hn2:=kV t.zxid t.nodes t.sessions (dirP x.path) h1 hr;have hri:fw t.sessions:=gh g1;have hss:t.sessions.length≤2147483647:=mA g1;have hdone:(cG t x)=(⟨x.zxid,(aQ t x.session x.zxid t.nodes.length).1,t.sessions.eraseIdx (bf t.sessions x.session)⟩,(aQ t x.session x.zxid t.nodes.length).2):=by unfold cG;rw[RI (by omega),RJ o2]
 refine zJ func157 ntmps157 results157 ?_;simp only[go_sem];refine zW qw (zc hgc (zc hxc (zc hoc (zc hn1 (z4 hn2 hsp hcp (ic func218)))))) (zx @o2 (zx @e1 @g3')) (z1 (fun hc hc hc hc hc hc hc hc hc hc=>?_));refine Xa (Xf 24 1 rfl) ?_;simp only[go_sem];refine W9 (ι:=Nat) (fun k=>k≤t.sessions.length) (fun k=>t.sessions.length-k) [2,3,4,7,15,16,18,267,268] (fun k=>[(269,I k),(24,.osl 8 1 0 (gZ (t.sessions.take k) x.session).length)]) (fun k=>[.cells [.d (.int .i64 t.zxid),.d (.sl 9 (t.nodes.map XU.row)),.d (.sl 1 (t.sessions.map aY))],.cells [I x.zxid,I 2,I x.session,S x.path,S x.data,I x.version,I x.owner],.cells [I 0,.d (.sc (.slice none 0 0)),.d (.sc (.slice none 0 0))],.rows 9 (t.nodes.map XU.row),.rows 1 (t.sessions.map aY),.cells [I x.zxid,.osl 3 9 0 t.nodes.length,.osl 4 1 0 t.sessions.length],.cells [.d (.sc (.slice none 0 0))],.cells [.clo 220 [] [.ptr 5 0,.ptr 1 0,.ptr 6 0]],.rows 1 ((gZ (t.sessions.take k) x.session).map aY)]) 0 ?_ ?_ ?_
 ·omega
 ·simp only[go_sem,gZ,S3];exact zSm Yj
 intro k hk;have hol:(gZ (t.sessions.take k) x.session).length≤k:=R8 (SW _ _) (Tg _ _);simp only[go_sem]
 by_cases hkk:k<t.sessions.length
 ·(refine zW qw zn (zx @jf @ay) (z2 ?_ ?_)<;>(repeat with_reducible intro hc))
  ·refine Zq (k+1) ?_
   rw[qe _ _ _ hkk,RJ (by omega)];exact zFr [0,1,2,3,4,5,6,7,10] @List.length_append.{0}
  ·refine Zq (k+1) ?_
   rw[qe _ _ _ hkk,RI (by omega)];exact zFr [0,1,2,3,4,5,6,7,8] Yj
 obtain rfl:k=t.sessions.length:=by omega
 rw[R7,nY hri ms] at hol ⊢;generalize t.sessions.eraseIdx (bf t.sessions x.session)=ss1 at hol hdone ⊢;refine zW qw zn (zx @jf @ay) (z1 (fun hc=>?_));refine Xa (Xl 6 0 2 rfl rfl) ?_;simp only[go_sem];refine W9 (ι:=Nat) (fun k=>k≤t.nodes.length) (fun k=>t.nodes.length-k) [3,4,7,15,16,18,285,286] (fun k=>[(287,I k)]) (fun k=>[.cells [.d (.int .i64 t.zxid),.d (.sl 9 (t.nodes.map XU.row)),.d (.sl 1 (t.sessions.map aY))],.cells [I x.zxid,I 2,I x.session,S x.path,S x.data,I x.version,I x.owner],.cells [I 0,.d (.sc (.slice none 0 0)),.d (.sc (.slice none 0 0))],.rows 9 ((aQ t x.session x.zxid k).1.map XU.row),.rows 1 (t.sessions.map aY),.cells [I x.zxid,.osl 3 9 0 (aQ t x.session x.zxid k).1.length,.osl 8 1 0 ss1.length],.cells [.osl 9 2 0 (aQ t x.session x.zxid k).2.length],.cells [.clo 220 [] [.ptr 5 0,.ptr 1 0,.ptr 6 0]],.rows 1 (ss1.map aY),.rows 2 ((aQ t x.session x.zxid k).2.map XZ.row)]) 0 ?_ ?_ ?_
 ·omega
 ·simp only[go_sem,aQ];exact zSm Yj
 intro k hk;have ci:=mU (z:=x.zxid) g1 (dq g2).2.2.1 k hk;have hnext:aQ t x.session x.zxid (k+1)=if(t.nodes.getD k default).stat.owner=x.session then(fA (aQ t x.session x.zxid k).1 (t.nodes.getD k default).path x.zxid,(aQ t x.session x.zxid k).2++eR (t.nodes.getD k default).path) else aQ t x.session x.zxid k:=rfl
 simp only[go_sem]
 by_cases hkk:k<t.nodes.length
 case neg=>
  obtain rfl:k=t.nodes.length:=by omega
  generalize aQ t x.session x.zxid t.nodes.length=cl at ci hdone ⊢;obtain⟨ns2,es⟩:=cl;have hl2:ns2.length≤400:=R8 ci.len h400;have helen:es.length≤2*t.nodes.length:=ci.elen;simp only at hdone;simp only[go_sem];refine zW qw zn Yj (z1 (fun hc=>?_));refine W9 (ι:=Nat) (fun k=>k≤ns2.length∧∀ j,j<k→dN (ns2.getD j default)=false) (fun k=>ns2.length-k) [4,7,15,16,404,405] (fun k=>[(406,I k)]) (fun k=>[.cells [.d (.int .i64 t.zxid),.d (.sl 9 (t.nodes.map XU.row)),.d (.sl 1 (t.sessions.map aY))],.cells [I x.zxid,I 2,I x.session,S x.path,S x.data,I x.version,I x.owner],.cells [I 0,.d (.sc (.slice none 0 0)),.d (.sc (.slice none 0 0))],.rows 9 (ns2.map XU.row),.rows 1 (t.sessions.map aY),.cells [I x.zxid,.osl 3 9 0 ns2.length,.osl 8 1 0 ss1.length],.cells [.osl 9 2 0 es.length],.cells [.clo 220 [] [.ptr 5 0,.ptr 1 0,.ptr 6 0]],.rows 1 (ss1.map aY),.rows 2 (es.map XZ.row)]) 0 ?_ ?_ ?_
  ·exact⟨by omega,fun j hj=>by omega⟩
  ·simp only[go_sem];exact zSm Yj
  intro k ⟨hk,hk2⟩;simp only[go_sem]
  (refine zW qw (z2 Rn (ic func218)) @XU.rgetD (z3 ?_ ?_ ?_)<;>(repeat with_reducible intro hc))
  ·have hbig:ns2.any dN=true:=T1.2 ⟨_,aZ ns2 k (by omega),by unfold dN;rw[RN];omega⟩
   rw[cU h0 (by rw[hdone];exact hbig)];exact zEe dfl
  ·refine⟨k+1,⟨by omega,fun j hj=>?_⟩,by omega,?_⟩
   ·by_cases e:j=k
    ·subst e;unfold dN;rw[RR];omega
    ·exact hk2 j (by omega)
   exact zFr [0,1,2,3,4,5,6,7,8,9] Yj
  all_goals
   have hbig:=(nS (l:=ns2) (fun j hj=>hk2 j (by omega))).1;rw[ez h0 (by rw[hdone];exact hbig),hdone];exact zEe (zx @I.eq_1 @S.eq_1)
 by_cases how:(t.nodes.getD k default).stat.owner=x.session
 ·rw[RJ how] at hnext
  have hone:=nQ (z:=x.zxid) g1 (dq g2).2.2.1 hkk how;have hpb:(t.nodes.getD k default).path.length≤1048576:=hps _ (aZ t.nodes k (by omega));have hm:=ci.rest k (RP _) hkk;have hdir:=ci.dirs k hkk how;have hr:=ci.rises;have hlen:=ci.len;have helen:=ci.elen;clear ci;unfold nd at hone hm hdir;generalize aQ t x.session x.zxid k=cl at hnext hm hdir hr hlen helen;obtain⟨ns,es⟩:=cl;simp only at hnext hm hdir hr hlen helen;generalize hpp:(t.nodes.getD k default).path=p at hnext hm hdir hone hpb;have hgo:=PK x.zxid ns ss1 es x p (by omega) (by omega) (by omega) hpb hr hm hdir hone.2.2.1;rw[o2] at hgo;refine zW qw (z1 (ac [5,3,8,6,9,7,1] hgo)) (zx @how (zx @hpp @XU.rgetD)) (z1 (fun hc hc=>?_));refine Zq (k+1) ?_;rw[hnext];exact zFr [0,1,2,11,4,5,6,7,8,12] Yj
 ·rw[RI how] at hnext
  refine zW qw zn @XU.rgetD (z1 (fun hc hc=>?_));refine Zq (k+1) ?_;rw[hnext];exact zFr [0,1,2,3,4,5,6,7,8,9] Yj
theorem dF(t:XW)(x:ATxn)(hw:t.wf)(hps:∀ n,n∈t.nodes→n.path.length≤1048576)(hz:okI x.zxid)(hp:x.path.length≤1048576)(hd:okS x.data):ab prog [] 157 [t.av,x.av] (ret (.tup [(ah t x).1.av,.d (.sl 2 ((ah t x).2.1.map XZ.row)),I (ah t x).2.2])):=by
 by_cases h0:bw t x=0
 case neg=>
  rw[mJ h0];exact yf t x hw hps hz hp hd h0
 obtain⟨o1,o2,_,_⟩:=dq (cm h0).2.1;rcases(by omega:x.op=1∨x.op=2∨x.op=3∨x.op=4∨x.op=5) with o|o|o|o|o
 ·exact yi t x hw hps hz hp hd h0 o
 ·exact yp t x hw hps hz hp hd h0 o
 ·exact yK t x hw hps hz hp hd h0 o
 ·exact zv t x hw hps hz hp hd h0 o
 ·exact z6 t x hw hps hz hp hd h0 o
def okN(n:XU):Prop:=n.wf∧n.path.length≤1048576
def okT(t:XW):Prop:=t.wf∧∀ n,n∈t.nodes→n.path.length≤1048576
theorem tG(z:Int):okI (IntKind.i64.wrap z):=by rw[UG];unfold okI;omega
theorem EM{ns:List XU}{p:List UInt8}{m z:Int}(h:∀ n,n∈ns→okN n)(hz:okI z):∀ n,n∈kj ns p m z→okN n:=by
 unfold kj;split
 ·rename_i hm
  intro n hn;rcases Td hn with a|rfl
  ·exact h n a
  ·by_cases hl:place (pathsN ns) (dirP p)<ns.length
   ·obtain⟨⟨a1,a2,b1,b2,b3,b4,b5,b6,b7⟩,c⟩:=h _ (bu ns default hl)
    exact⟨⟨a1,a2,b1,b2,hz,b4,tG _,b6,tG _⟩,c⟩
   ·rw[Wc (by omega)] at hn
    exact h _ hn
 ·exact h
theorem Eo{ns:List XU}{p:List UInt8}{z:Int}(h:∀ n,n∈ns→okN n)(hz:okI z):∀ n,n∈fA ns p z→okN n:=
 EM (fun n hn=>h n (TM hn)) hz
theorem qH{t:XW}{s z:Int}(h:∀ n,n∈t.nodes→okN n)(hz:okI z):∀ k n,n∈(aQ t s z k).1→okN n
 |0=>h
 | k+1=>by
   unfold aQ;split
   ·exact Eo (qH h hz k) hz
   ·exact qH h hz k
theorem AK{α:Type}{l:List α}{i:Nat}{x y:α}(h:i≤l.length)(hy:y∈l.insertIdx i x):y=x∨y∈l:=(T0 h).1 hy
theorem E6{α:Type}(l:List α)(i:Nat)(x:α)(h:i≤l.length):(l.insertIdx i x).length=l.length+1:=by rw[List.length_insertIdx,RJ h]
theorem MD{t:XW}{x:ATxn}(h:okT t)(hx:x.wf)(hp:x.path.length≤1048576)(h0:bw t x=0):okT (cG t x).1:=by
 obtain⟨g1,g2,g3,g4,g5,g6,g7,g8⟩:=cm h0;obtain⟨⟨w1,⟨w2,w3⟩,w4,w5⟩,hb⟩:=h;obtain⟨x1,x2,x3,x4,x5,x6,x7⟩:=hx;have hN:∀ n,n∈t.nodes→okN n:=fun n hn=>⟨w3 n hn,hb n hn⟩
 have h400:t.nodes.length≤400:=(cu g1).2.1;have hss:=mA g1
 have fin:∀ ns:List XU,∀ ss:List Int,ns.length≤401→ss.length≤2147483648→(∀ n,n∈ns→okN n)→(∀ s,s∈ss→okI s)→okT ⟨x.zxid,ns,ss⟩:=fun ns ss a b c d=>
  ⟨⟨x1,⟨by show ns.length*88≤_;omega,fun n hn=>(c n hn).1⟩,by show ss.length*8≤_;omega,d⟩,fun n hn=>(c n hn).2⟩
 unfold cG;split
 ·exact fin _ _ (by omega) (by rw[E6 _ _ _ (show bf t.sessions x.session≤_ from TF)];omega) hN (fun s hs=>by
   rcases AK TF hs with rfl|a
   ·exact x3
   ·exact w5 _ a)
 split
 ·exact fin _ _ (R8 (mU (z:=x.zxid) g1 (dq g2).2.2.1 _ (RP _)).len (by omega)) (R8 (Wm _ _) (by omega)) (qH hN x1 _) (fun s hs=>w5 s (TM hs))
 split
 ·rename_i o3
  have hpl:place (pathsN t.nodes) x.path≤t.nodes.length:=by have:=eT (pathsN t.nodes) x.path;rwa[ao] at this
  refine fin _ _ ?_ (by omega) ?_ w5
  ·unfold qk;rw[pl,E6 _ _ _ hpl];have:=(g6 o3).2.2;omega
  ·refine EM (fun n hn=>?_) x1
   rcases AK hpl hn with rfl|a
   ·exact⟨⟨x4,x5,x1,x1,x1,⟨by show(_:Int)≤0;decide,by show(0:Int)≤_;decide⟩,⟨by show(_:Int)≤0;decide,by show(0:Int)≤_;decide⟩,x7,⟨by show(_:Int)≤0;decide,by show(0:Int)≤_;decide⟩⟩,hp⟩
   ·exact hN n a
 split
 ·refine fin _ _ ?_ (by omega) (Eo hN x1) w5
  unfold fA;rw[pl];exact R8 (Wm _ _) (by omega)
 ·obtain⟨o1,o2,_,_⟩:=dq g2
  have hq:=(ag (aE g1) (g8 (by omega))).1;rw[aK] at hq;refine fin _ _ (by unfold setN;rw[R3];omega) (by omega) (fun n hn=>?_) w5;rcases Td hn with a|rfl
  ·exact hN n a
  ·obtain⟨⟨a1,a2,b1,b2,b3,b4,b5,b6,b7⟩,c⟩:=hN _ (bu t.nodes default (k:=place (pathsN t.nodes) x.path) hq)
   exact⟨⟨a1,x5,b1,x1,b3,x6,b5,b6,b7⟩,c⟩
theorem Gy{t:XW}{x:ATxn}(h:okT t)(hx:x.wf)(hp:x.path.length≤1048576):okT (ah t x).1:=by
 have hd:okT (default:XW):=⟨⟨by unfold okI;decide,⟨by decide,fun _ h=>by cases h⟩,by decide,fun _ h=>by cases h⟩,fun _ h=>by cases h⟩;unfold ah;split
 ·exact hd
 ·rename_i h0
  split
  ·exact hd
  ·exact MD h hx hp (TA.1 h0)
theorem BF{t:XW}{x:ATxn}:(ah t x).2.1.length≤1000:=by
 unfold ah;split
 ·exact RX _
 ·rename_i h0
  have h0:=TA.1 h0;obtain⟨g1,g2,g3,g4,g5,g6,g7,g8⟩:=cm h0;have h400:t.nodes.length≤400:=(cu g1).2.1;split
  ·exact RX _
  ·show(cG t x).2.length≤_
   unfold cG;split
   ·exact RX _
   split
   ·have:=(mU (z:=x.zxid) g1 (dq g2).2.2.1 _ (RP _)).elen
    simp only;omega
   split
   ·show 2≤_;omega
   split
   ·show 2≤_;omega
   ·show 1≤_;omega
theorem qSs1:Pls [XS [0,2,3,4] (.fork 1 (XS [5,6] .done) 5 (XS [1,6] .done))]:=pls _
theorem QS:Pls [XS [1,2] (.forks 0 (.fork 3 (XS [4,5,6,7,8] .done) 5 (XS [3,4,6,7,8] .done)) 3 (XS [4] (.fork 0 (XS [5,6,7,8] .done) 5 (XS [0,6,7,8] .done))) 5 (XS [0,3,4,6,7,8] .done))]:=pls _
def bg(s:XV)(x:ATxn)(safe:Bool):XV×Int:=
 if x.zxid≤aA s.peer.log then(default,13) else if(cI s.disk.files x safe).2=0 then(⟨s.up,(cI s.disk.files x safe).1,⟨s.peer.id,s.peer.epoch,s.peer.log++[x],s.peer.done⟩,s.tree,s.watches⟩,0) else(default,(cI s.disk.files x safe).2)
def bR(s:XV)(keep:Int):XV×Int:=
 if(eI s.disk.files keep).2=0 then(⟨false,(eI s.disk.files keep).1,⟨s.peer.id,0,[],0⟩,t00,[]⟩,0) else(default,(eI s.disk.files keep).2)
theorem kD(l:List ATxn)(x:ATxn):l.map ATxn.row++[[.int .i64 x.zxid,.int .i64 x.op,.int .i64 x.session,.str x.path,.str x.data,.int .i64 x.version,.int .i64 x.owner]]=(l++[x]).map ATxn.row:=by rw[Sn];rfl
theorem ko(l:List ATxn)(x:ATxn):List.take (l.length+1) ((l++[x]).map ATxn.row)=(l++[x]).map ATxn.row:=RK (by simp)
theorem qa(s:XV)(hw:s.wf):ab prog [] 156 [s.av] (ret s.av):=by
 obtain⟨_,h1,h2,h3,h4⟩:=hw;have hl1:=h2.2.2.1.1;have hl2:=h4.1;refine zJ func156 ntmps156 results156 ?_;simp only[go_sem];refine zW qw (z2 (mL s.disk h1.1) (EC s.tree h3)) Yj (z1 ?_)
 all_goals exact zEe Yj
theorem wu(s:XV)(hw:s.wf):ab prog [] 156 [s.av] (dr (.agg [.d (.bool s.up),.d (.sl 3 (s.disk.files.map AFile.row)),I s.peer.id,I s.peer.epoch,.osl 0 7 0 s.peer.log.length,I s.peer.done,.d (.int .i64 s.tree.zxid),.d (.sl 9 (s.tree.nodes.map XU.row)),.d (.sl 1 (s.tree.sessions.map aY)),.osl 1 3 0 s.watches.length]) [.rows 7 (s.peer.log.map ATxn.row),.rows 3 (s.watches.map AWatch.row)]):=by
 obtain⟨_,h1,h2,h3,h4⟩:=hw;have hl1:=h2.2.2.1.1;have hl2:=h4.1;refine zJ func156 ntmps156 results156 ?_;simp only[go_sem];refine zW qw (z2 (mL s.disk h1.1) (EC s.tree h3)) Yj (z1 ?_)
 all_goals(refine zOp Yj ?_;simp(disch:=omega) only[go_sem,aa];refine Xc ?_ (af.same ⟨rfl,rfl⟩);refine zV [2,3] rfl rfl rfl rfl ?_ ?_<;>simp(disch:=omega) only[go_sem,aa,UC,UD])
theorem CC(s:XV)(x:ATxn)(safe:Bool)(hw:s.wf)(hx:x.wf)(hl:s.peer.log.length≤1048576):ab prog [] 106 [s.av,x.av,B safe] (ret (.tup [(bg s x safe).1.av,I (bg s x safe).2])):=by
 obtain⟨_,h1,h2,h3,h4⟩:=hw;have hlast:=mX s.peer.log h2.2.2.1.1;have ha:=HQ s.disk x safe h1.1 h1.2 hx.2.2.2.1 hx.2.2.2.2.1;unfold bg;generalize cI s.disk.files x safe=q at ha ⊢;obtain⟨d2,e⟩:=q;simp only at ha ⊢;refine zJ func106 ntmps106 results106 ?_;simp only[go_sem]
 (repeat' first
|(with_reducible refine AR.f ?_)
|(with_reducible refine AWP.cond rfl ?_ ?_<;>intro hc<;>(try simp only[hcs,R1,Sa,Sb] at hc))
|((first|((first|refine zP ((XS [0,2,3,4] (.fork 1 (XS [5,6] .done) 5 (XS [1,6] .done)))) ?_|refine zP ((XS [0,1,6,7] (.forks 2 (XS [3,4] (.forks 5 (.fork 8 (.fork 9 (XS [10,11,12,13,14,15] .done) 10 (.fork 9 (XS [11,12,13,14,15] .done) 11 (XS [9,12,13,14,15] .done))) 10 (.fork 8 (.fork 9 (XS [11,12,13,14,15] .done) 11 (XS [9,12,13,14,15] .done)) 11 (XS [8,9,12,13,14,15] .done))) 8 (.fork 5 (.fork 9 (XS [10,11,12,13,14,15] .done) 10 (.fork 9 (XS [11,12,13,14,15] .done) 11 (XS [9,12,13,14,15] .done))) 10 (.fork 5 (.fork 9 (XS [11,12,13,14,15] .done) 11 (XS [9,12,13,14,15] .done)) 11 (XS [5,9,12,13,14,15] .done))) 10 (.forks 5 (.fork 8 (.fork 9 (XS [11,12,13,14,15] .done) 11 (XS [9,12,13,14,15] .done)) 11 (XS [8,9,12,13,14,15] .done)) 8 (.fork 5 (.fork 9 (XS [11,12,13,14,15] .done) 11 (XS [9,12,13,14,15] .done)) 11 (XS [5,9,12,13,14,15] .done)) 11 (.fork 5 (XS [8,9,12,13,14,15] .done) 8 (XS [5,9,12,13,14,15] .done))))) 8 (.fork 2 (XS [3,4] (.fork 5 (.fork 9 (XS [10,11,12,13,14,15] .done) 10 (.fork 9 (XS [11,12,13,14,15] .done) 11 (XS [9,12,13,14,15] .done))) 10 (.fork 5 (.fork 9 (XS [11,12,13,14,15] .done) 11 (XS [9,12,13,14,15] .done)) 11 (XS [5,9,12,13,14,15] .done)))) 10 (.fork 2 (XS [3,4] (.fork 5 (.fork 9 (XS [11,12,13,14,15] .done) 11 (XS [9,12,13,14,15] .done)) 11 (XS [5,9,12,13,14,15] .done))) 11 (XS [2,3,4,5,9,12,13,14,15] .done))) 10 (.forks 2 (XS [3,4] (.forks 5 (.fork 8 (.fork 9 (XS [11,12,13,14,15] .done) 11 (XS [9,12,13,14,15] .done)) 11 (XS [8,9,12,13,14,15] .done)) 8 (.fork 5 (.fork 9 (XS [11,12,13,14,15] .done) 11 (XS [9,12,13,14,15] .done)) 11 (XS [5,9,12,13,14,15] .done)) 11 (.fork 5 (XS [8,9,12,13,14,15] .done) 8 (XS [5,9,12,13,14,15] .done)))) 8 (.fork 2 (XS [3,4] (.fork 5 (.fork 9 (XS [11,12,13,14,15] .done) 11 (XS [9,12,13,14,15] .done)) 11 (XS [5,9,12,13,14,15] .done))) 11 (XS [2,3,4,5,9,12,13,14,15] .done)) 11 (XS [2,3,4] (.fork 5 (XS [8,9,12,13,14,15] .done) 8 (XS [5,9,12,13,14,15] .done))))))) ?_|(with_reducible first|refine zR ?_));intro K hK)|((first|refine zA hlast ?_ ?_ ?_ ?_ ?_|refine zA ha ?_ ?_ ?_ ?_ ?_);(focus exact rfl);(focus exact rfl);iterate 2 (focus((try simp(disch:=omega) only[go_sem,aa,kD,ko])<;>(try omega)<;>fail)))|((first|refine zN ha rfl ?_ ?_|refine zX hlast rfl ?_ ?_|refine zX ha rfl ?_ ?_|refine zY ha ?_ ?_);(focus((try simp(disch:=omega) only[go_sem,aa,kD,ko])<;>(try omega)<;>fail))))<;>(try simp(disch:=omega) only[go_sem,aa,kD,ko])<;>(repeat' with_reducible refine Su ?_ ?_)<;>(try(with_reducible refine hK _ ?_;clear hK K)))
|omega)
 all_goals first
  |(rw[RJ (by omega)];exact zEf dfl;done)
  |(rw[RI (by omega),RI (by omega)];exact zEf dfl;done)
  |(rw[RI (by omega),RJ (by omega)];exact zEf (zx @I.eq_1 (zx @S.eq_1 (zx @kD @ko)));done)
theorem oI(s:XV)(x:ATxn)(safe:Bool)(hw:s.wf)(hx:x.wf)(hp:x.path.length≤1048576)(hl:s.peer.log.length≤1048576):ab prog [] 103 [s.av,x.av,B safe] (ret (.tup [(bg s x safe).1.av,I (bg s x safe).2])):=by
 have hcp:=wu s hw;obtain⟨_,h1,h2,h3,h4⟩:=hw;have hlast:=ref_last_c s.peer.log h2.2.2.1.1;have ha:=zz s.disk x safe h1.1 h1.2 hx.1 hp hx.2.2.2.2.1;unfold bg;generalize cI s.disk.files x safe=q at ha ⊢;obtain⟨d2,e⟩:=q;simp only at ha ⊢;refine zJ func103 ntmps103 results103 ?_;simp only[go_sem]
 (refine zW qw (z4 qSs1 hlast ha hcp) (zx @kD @ko) (zc ?_ (zc ?_ (z4 ?_ ?_ ?_ ?_)))<;>(repeat with_reducible intro hc))
 all_goals first
  |(rw[RJ (by omega)];exact zEf dfl;done)
  |(rw[RI (by omega),RI (by omega)];exact zEf dfl;done)
  |(rw[RI (by omega),RJ (by omega)];exact zEf (zx @I.eq_1 (zx @S.eq_1 (zx @kD @ko)));done)
theorem LR(s:XV)(keep:Int)(hw:s.wf):ab prog [] 118 [s.av,I keep] (ret (.tup [(bR s keep).1.av,I (bR s keep).2])):=by
 obtain⟨_,h1,h2,h3,h4⟩:=hw;have ha:=NS s.disk keep h1.1 h1.2;unfold bR;generalize eI s.disk.files keep=q at ha ⊢;obtain⟨d2,e⟩:=q;simp only at ha ⊢;refine zJ func118 ntmps118 results118 ?_;simp only[go_sem]
 (refine zW qw (z3 QS ha Oi) Yj (zc ?_ (zc ?_ (z4 ?_ ?_ ?_ ?_)))<;>(repeat with_reducible intro hc))
 all_goals first
  |(rw[RI (by omega)];exact zEf dfl;done)
  |(rw[RJ (by omega)];exact zEf (zx @I.eq_1 (zx @S.eq_1 @t00.eq_1));done)
theorem zr(s:XV)(keep:Int)(hw:s.wf):ab prog [] 49 [s.av,I keep] (ret (.tup [(bR s keep).1.av,I (bR s keep).2])):=by
 obtain⟨_,h1,h2,h3,h4⟩:=hw;have ha:=BH s.disk keep h1.1 h1.2;unfold bR;generalize eI s.disk.files keep=q at ha ⊢;obtain⟨d2,e⟩:=q;simp only at ha ⊢;refine zJ func49 ntmps49 results49 ?_;simp only[go_sem]
 (refine zW qw (z3 QS ha xf) Yj (zc ?_ (zc ?_ (z4 ?_ ?_ ?_ ?_)))<;>(repeat with_reducible intro hc))
 all_goals first
  |(rw[RI (by omega)];exact zEf dfl;done)
  |(rw[RJ (by omega)];exact zEf (zx @I.eq_1 (zx @S.eq_1 @t00.eq_1));done)
def mt(t:XW)(r:XY):Int:=
 if br r.path=true then(if r.session∈t.sessions then(if(aw t r.path).2=0 then(if ¬ r.version=-1∧¬ r.version=(aw t r.path).1.stat.version then 9 else 0) else(aw t r.path).2) else 12) else 2
def qN(r:XY):List UInt8:=(splitP r.path).1.1
def sH(t:XW)(r:XY):List UInt8×Int:=dP (splitP r.path).1.2 (aw t (qN r)).1.stat.cversion
def mb(t:XW)(r:XY):Int:=
 if r.flags<0∨3<r.flags then 3 else if(splitP r.path).2=0 then(if r.session∈t.sessions then(if 2≤r.flags then(if(aw t (qN r)).2=0 then(if(sH t r).2=0 then(df (qN r) (sH t r).1).2 else(sH t r).2) else(aw t (qN r)).2) else 0) else 12) else 2
def kN(t:XW)(r:XY):List UInt8:=if 2≤r.flags then(df (qN r) (sH t r).1).1 else r.path
def kJ(r:XY):Int:=if r.flags=1∨r.flags=3 then r.session else 0
def fE(t:XW)(z:Int)(r:XY):ATxn×Int:=
 if r.op=1∨r.op=2 then(⟨z,r.op,r.session,[],[],0,0⟩,0)
 else if r.op=3 then(⟨z,3,r.session,kN t r,r.data,0,kJ r⟩,mb t r)
 else if r.op=4 then(⟨z,4,r.session,r.path,[],0,0⟩,mt t r)
 else if r.op=5 then(⟨z,5,r.session,r.path,r.data,IntKind.i64.wrap ((aw t r.path).1.stat.version+1),0⟩,mt t r)
 else(default,4)
def gf(t:XW)(z:Int)(r:XY):Prop:=aS t=true∧bd z∧1≤r.session∧r.session≤2147483647
instance (t:XW) (z:Int) (r:XY):Decidable (gf t z r):=by unfold gf;infer_instance
def bA(t:XW)(z:Int)(r:XY):ATxn×Int:=
 if gf t z r then(if(fE t z r).2=0 then(if(ah t (fE t z r).1).2.2=0 then((fE t z r).1,0) else(default,(ah t (fE t z r).1).2.2)) else(default,(fE t z r).2)) else(default,3)
theorem Ev{t:XW}{z:Int}{r:XY}(h:¬ gf t z r):bA t z r=(default,3):=by unfold bA;rw[RI h]
theorem bG{t:XW}{z:Int}{r:XY}(h:gf t z r){x:ATxn}{e:Int}(h2:fE t z r=(x,e))(h3:¬ e=0):bA t z r=(default,e):=by unfold bA;rw[RJ h,h2,RI h3]
theorem dR{t:XW}{z:Int}{r:XY}(h:gf t z r){x:ATxn}(h2:fE t z r=(x,0)):bA t z r=if(ah t x).2.2=0 then(x,0) else(default,(ah t x).2.2):=by unfold bA;rw[RJ h,h2,RJ rfl]
theorem wQ(t:XW)(r:XY)(hw:t.wf)(hg:aS t=true)(hp:okS r.path):ab prog [] 176 [t.av,r.av] (ret (.tup [I (if mt t r=0 then(aw t r.path).1.stat.version else 0),I (mt t r)])):=by
 have hr:=aE hg;have hri:=gh hg;refine zJ func176 ntmps176 results176 ?_;simp only[go_sem]
 (refine zW qw (z3 (good_c r.path hp) (open_c t r.session hw.2.2.1 hri) (lF t r.path hw.2.1.1 hr)) Yj (zc ?_ (z4 ?_ ?_ ?_ ?_))<;>(repeat with_reducible intro hc))
 all_goals
  unfold mt
  (refine zE2 Yj ?_;(try simp(disch:=omega) only[go_sem,aa,I,B,S,zj]))
  try(repeat' split)
  all_goals first|rfl|omega|(exfalso;omega)|(exfalso;simp_all;done)|(simp_all;done)
theorem MJ(a b:List UInt8):(df a b).1.length≤200:=by
 by_cases h:br a=true∧aU b=true
 ·by_cases h2:200<(jr a b).length
  ·rw[oH h.1 h.2 h2];exact RX _
  ·rw[va h.1 h.2 (by omega)];show(jr a b).length≤200;omega
 ·rw[kf h];exact RX _
theorem rC(s:List UInt8):(splitP s).1.1.length≤200∧(splitP s).1.2.length≤200:=by
 by_cases h:br s=true
 case neg=>rw[qr h];exact⟨by decide,by decide⟩
 rcases lI h with rfl|⟨ps,p,hn,rfl,hl,hj⟩
 ·rw[lD];exact⟨by decide,by decide⟩
 ·rw[kY hn hl]
  have hp:=A9 (ps:=ps++[p]) ps.length hl;rw[Uv] at hp
  ·refine⟨hp,?_⟩
   rw[hj,RL,RQ] at hl;show p.length≤200;omega
  ·rfl
theorem Eu(a:List UInt8)(n:Int):(dP a n).1.length≤a.length+10:=by
 unfold dP;split
 ·exact RX _
 ·split
  ·show(qy a n.toNat).length≤_
   unfold qy;rw[RL,px];omega
  ·exact RX _
theorem EO{t:XW}(hw:t.wf)(p:List UInt8):(aw t p).1.wf:=by
 have hd:(default:XU).wf:=by unfold XU.wf X8.wf okS okI;decide
 unfold aw;split
 ·show XU.wf _
  by_cases h:place (ar t) p<t.nodes.length
  ·exact hw.2.1.2 _ (bu _ _ h)
  ·show(t.nodes.getD _ default).wf
   rw[RG,R9 (by omega)];exact hd
 ·exact hd
theorem cV{t:XW}{z:Int}{r:XY}(h:okT t)(hr:r.wf)(hp:r.path.length≤1048576)(hz:okI z):(fE t z r).1.wf∧(fE t z r).1.path.length≤1048576:=by
 obtain⟨r1,r2,r3,r4,r5,r6⟩:=hr;have n0:okI 0:=⟨by decide,by decide⟩;have s0:okS []:=RX _;have n3:okI 3:=⟨by decide,by decide⟩;have n4:okI 4:=⟨by decide,by decide⟩;have n5:okI 5:=⟨by decide,by decide⟩;unfold fE;split
 ·exact⟨⟨hz,r1,r2,s0,s0,n0,n0⟩,RX _⟩
 split
 ·have hc:(kN t r).length≤1048576:=by
   unfold kN;split
   ·exact R8 (MJ _ _) (by omega)
   ·exact hp
  refine⟨⟨hz,n3,r2,R8 hc (by omega),r4,n0,?_⟩,hc⟩;show okI (kJ r);unfold kJ;split
  ·exact r2
  ·exact n0
 split
 ·exact⟨⟨hz,n4,r2,r3,s0,n0,n0⟩,hp⟩
 split
 ·exact⟨⟨hz,n5,r2,r3,r4,tG _,n0⟩,hp⟩
 ·exact⟨⟨n0,n0,n0,s0,s0,n0,n0⟩,RX _⟩
theorem Qv:Pls [XS [0,1,2,4] (.fork 3 (XS [5,6,7] .done) 5 (XS [3,6,7] .done))]:=pls _
theorem LB:Pls [XS [0,1,2,3,6] (.fork 4 (XS [5,7,8,9] .done) 7 (XS [4,5,8,9] .done))]:=pls _
theorem HW{t:XW}{z:Int}{r:XY}(o:r.op=4):fE t z r=(⟨z,4,r.session,r.path,[],0,0⟩,mt t r):=by unfold fE;rw[RI (by omega),RI (by omega),RJ o]
theorem Mi{t:XW}{z:Int}{r:XY}(o:r.op=5):fE t z r=(⟨z,5,r.session,r.path,r.data,IntKind.i64.wrap ((aw t r.path).1.stat.version+1),0⟩,mt t r):=by unfold fE;rw[RI (by omega),RI (by omega),RI (by omega),RJ o]
theorem sQ{t:XW}{z:Int}{r:XY}(o:r.op=1∨r.op=2):fE t z r=(⟨z,r.op,r.session,[],[],0,0⟩,0):=by unfold fE;rw[RJ o]
theorem II{t:XW}{z:Int}{r:XY}(o:¬ (1≤r.op∧r.op≤5)):fE t z r=(default,4):=by unfold fE;rw[RI (by omega),RI (by omega),RI (by omega),RI (by omega)]
theorem ua(t:XW)(r:XY):(br r.path=false∧mt t r=2)∨(br r.path=true∧¬ r.session∈t.sessions∧mt t r=12)∨(br r.path=true∧r.session∈t.sessions∧¬ (aw t r.path).2=0∧mt t r=(aw t r.path).2) ∨
  (br r.path=true∧r.session∈t.sessions∧(aw t r.path).2=0∧(¬ r.version=-1∧¬ r.version=(aw t r.path).1.stat.version)∧mt t r=9)∨(br r.path=true∧r.session∈t.sessions∧(aw t r.path).2=0∧¬ (¬ r.version=-1∧¬ r.version=(aw t r.path).1.stat.version)∧mt t r=0):=by
 unfold mt
 by_cases a:br r.path=true
 ·rw[RJ a]
  by_cases b:r.session∈t.sessions
  ·rw[RJ b]
   by_cases c:(aw t r.path).2=0
   ·rw[RJ c]
    by_cases d:¬ r.version=-1∧¬ r.version=(aw t r.path).1.stat.version
    ·rw[RJ d];exact .inr (.inr (.inr (.inl ⟨a,b,c,d,rfl⟩)))
    ·rw[RI d];exact .inr (.inr (.inr (.inr ⟨a,b,c,d,rfl⟩)))
   ·rw[RI c];exact .inr (.inr (.inl ⟨a,b,c,rfl⟩))
  ·rw[RI b];exact .inr (.inl ⟨a,b,rfl⟩)
 ·rw[RI a];exact .inl ⟨by simpa using a,rfl⟩
theorem Mz(t:XW)(z:Int)(r:XY)(ht:okT t)(hr:r.wf)(hp:r.path.length≤1048576)(hz:okI z)(hq:¬ gf t z r):ab prog [] 105 [t.av,I z,r.av] (ret (.tup [(bA t z r).1.av,I (bA t z r).2])):=by
 have hgc:=lk t ht.1;have hzc:=zgood_c z;rw[Ev hq];unfold gf at hq;generalize aS t=g at hq hgc;refine zJ func105 ntmps105 results105 ?_;simp only[go_sem]
 (refine zW qw (z2 hgc hzc) Yj (zc ?_ (zc ?_ (zc ?_ (zc ?_ (zc ?_ (z4 ?_ ?_ ?_ ?_))))))<;>(try with_reducible intro(K:ASt→Prop) hK)<;>(repeat with_reducible intro hc))
 all_goals first
  |(exact zEf dfl;done)
  |(exfalso;exact hq ⟨by assumption,by assumption,by omega,by omega⟩)
  |(exfalso;simp_all;done)
  |(exfalso;simp_all;omega)
theorem NJ(t:XW)(z:Int)(r:XY)(ht:okT t)(hr:r.wf)(hp:r.path.length≤1048576)(hz:okI z)(hq:gf t z r)(o:r.op=1∨r.op=2∨¬ (1≤r.op∧r.op≤5)):ab prog [] 105 [t.av,I z,r.av] (ret (.tup [(bA t z r).1.av,I (bA t z r).2])):=by
 have hgc:=(lk t ht.1).re (congrArg B hq.1);have hzc:=(zgood_c z).re (congrArg B (decide_eq_true hq.2.1));obtain⟨hs1,hs2⟩:=hq.2.2
 by_cases o1:r.op=1∨r.op=2
 ·rcases o1 with o|o
  ·have hx:=sQ (t:=t) (z:=z) (r:=r) (.inl o)
   rw[o] at hx;have hxw:=cV (z:=z) ht hr hp hz;rw[hx] at hxw;simp only at hxw;have ha:=iz t ⟨z,1,r.session,[],[],0,0⟩ ht.1 hxw.1.2.2.2.1 hxw.1.2.2.2.2.1;rw[dR hq (hx)];generalize ah t ⟨z,1,r.session,[],[],0,0⟩=q at ha ⊢;obtain⟨a,es,e⟩:=q;simp only at ha ⊢;refine zJ func105 ntmps105 results105 ?_;simp only[go_sem]
   (refine zW qw (z3 hgc hzc ha) @o (z2 ?_ ?_)<;>(repeat with_reducible intro hc))
   all_goals first
    |(exfalso;omega)
    |(rw[RJ (by omega)];exact zEf (zx @I.eq_1 @S.eq_1);done)
    |(rw[RI (by omega)];exact zEf dfl;done)
  ·have hx:=sQ (t:=t) (z:=z) (r:=r) (.inr o)
   rw[o] at hx;have hxw:=cV (z:=z) ht hr hp hz;rw[hx] at hxw;simp only at hxw;have ha:=iz t ⟨z,2,r.session,[],[],0,0⟩ ht.1 hxw.1.2.2.2.1 hxw.1.2.2.2.2.1;rw[dR hq (hx)];generalize ah t ⟨z,2,r.session,[],[],0,0⟩=q at ha ⊢;obtain⟨a,es,e⟩:=q;simp only at ha ⊢;refine zJ func105 ntmps105 results105 ?_;simp only[go_sem]
   (refine zW qw (z3 hgc hzc ha) @o (z2 ?_ ?_)<;>(repeat with_reducible intro hc))
   all_goals first
    |(exfalso;omega)
    |(rw[RJ (by omega)];exact zEf (zx @I.eq_1 @S.eq_1);done)
    |(rw[RI (by omega)];exact zEf dfl;done)
 ·have hx:=II (t:=t) (z:=z) (r:=r) (by omega)
  rw[bG hq hx (by decide)];refine zJ func105 ntmps105 results105 ?_;simp only[go_sem];refine zW qw (z2 hgc hzc) Yj (z1 (fun hc hc hc hc hc hc hc=>?_))
  all_goals first|(exfalso;omega)|(exact zEf dfl;done)
theorem NG(t:XW)(z:Int)(r:XY)(ht:okT t)(hr:r.wf)(hp:r.path.length≤1048576)(hz:okI z)(hq:gf t z r)(o:r.op=4):ab prog [] 105 [t.av,I z,r.av] (ret (.tup [(bA t z r).1.av,I (bA t z r).2])):=by
 have hgc:=(lk t ht.1).re (congrArg B hq.1);have hzc:=(zgood_c z).re (congrArg B (decide_eq_true hq.2.1));obtain⟨hs1,hs2⟩:=hq.2.2;have hx:=HW (t:=t) (z:=z) (r:=r) o;have hvc:=wQ t r ht.1 hq.1 hr.2.2.1
 by_cases hv:mt t r=0
 case neg=>
  rw[bG hq hx hv];rw[RI hv] at hvc;generalize mt t r=e at hv hvc ⊢;refine zJ func105 ntmps105 results105 ?_;simp only[go_sem];refine zW qw (z3 hgc hzc hvc) @o (z1 (fun hc hc hc hc hc hc=>?_))
  all_goals first|(exfalso;omega)|(exact zEf dfl;done)
 rw[RJ hv,hv] at hvc;rw[hv] at hx;have hxw:=cV (z:=z) ht hr hp hz;rw[hx] at hxw;simp only at hxw;have ha:=iz t ⟨z,4,r.session,r.path,[],0,0⟩ ht.1 hxw.1.2.2.2.1 hxw.1.2.2.2.2.1;rw[dR hq (hx)];generalize ah t ⟨z,4,r.session,r.path,[],0,0⟩=q at ha ⊢;obtain⟨a,es,e⟩:=q;simp only at ha ⊢;refine zJ func105 ntmps105 results105 ?_;simp only[go_sem]
 (refine zW qw (z4 hgc hzc hvc ha) @o (z2 ?_ ?_)<;>(repeat with_reducible intro hc))
 all_goals first
  |(exfalso;omega)
  |(rw[RJ (by omega)];exact zEf (zx @I.eq_1 @S.eq_1);done)
  |(rw[RI (by omega)];exact zEf dfl;done)
theorem Mm(t:XW)(z:Int)(r:XY)(ht:okT t)(hr:r.wf)(hp:r.path.length≤1048576)(hz:okI z)(hq:gf t z r)(o:r.op=5):ab prog [] 105 [t.av,I z,r.av] (ret (.tup [(bA t z r).1.av,I (bA t z r).2])):=by
 have hgc:=(lk t ht.1).re (congrArg B hq.1);have hzc:=(zgood_c z).re (congrArg B (decide_eq_true hq.2.1));obtain⟨hs1,hs2⟩:=hq.2.2;have hx:=Mi (t:=t) (z:=z) (r:=r) o;have hvc:=wQ t r ht.1 hq.1 hr.2.2.1
 by_cases hv:mt t r=0
 case neg=>
  rw[bG hq hx hv];rw[RI hv] at hvc;generalize mt t r=e at hv hvc ⊢;refine zJ func105 ntmps105 results105 ?_;simp only[go_sem];refine zW qw (z4 Qv hgc hzc hvc) @o (z1 (fun hc hc hc hc hc hc hc=>?_))
  all_goals first|(exfalso;omega)|(exact zEf dfl;done)
 rw[RJ hv,hv] at hvc;rw[hv] at hx;have hxw:=cV (z:=z) ht hr hp hz;rw[hx] at hxw;simp only at hxw;have ha:=iz t ⟨z,5,r.session,r.path,r.data,IntKind.i64.wrap ((aw t r.path).1.stat.version+1),0⟩ ht.1 hxw.1.2.2.2.1 hxw.1.2.2.2.2.1;rw[dR hq (hx)];generalize ah t ⟨z,5,r.session,r.path,r.data,IntKind.i64.wrap ((aw t r.path).1.stat.version+1),0⟩=q at ha ⊢;obtain⟨a,es,e⟩:=q;simp only at ha ⊢;refine zJ func105 ntmps105 results105 ?_;simp only[go_sem]
 (refine zW qw (zc Qv (z4 hgc hzc hvc ha)) @o (z2 ?_ ?_)<;>(repeat with_reducible intro hc))
 all_goals first
  |(exfalso;omega)
  |(rw[RJ (by omega)];exact zEf (zx @I.eq_1 @S.eq_1);done)
  |(rw[RI (by omega)];exact zEf dfl;done)
theorem Bq(t:XW)(z:Int)(r:XY)(ht:okT t)(hr:r.wf)(hp:r.path.length≤1048576)(hz:okI z)(hq:¬ gf t z r):ab prog [] 102 [t.av,I z,r.av] (ret (.tup [(bA t z r).1.av,I (bA t z r).2])):=by
 have hgc:=cA t ht.1 ht.2;have hzc:=ref_zgood_c z hz;rw[Ev hq];unfold gf at hq;generalize aS t=g at hq hgc;refine zJ func102 ntmps102 results102 ?_;simp only[go_sem]
 (refine zW qw (z2 hgc hzc) Yj (zc ?_ (zc ?_ (zc ?_ (zc ?_ (zc ?_ (zc ?_ (z4 ?_ ?_ ?_ ?_)))))))<;>(try with_reducible intro(K:ASt→Prop) hK)<;>(repeat with_reducible intro hc))
 all_goals first
  |(exact zEf dfl;done)
  |(exfalso;exact hq ⟨by assumption,by assumption,by omega,by omega⟩)
  |(exfalso;simp_all;done)
  |(exfalso;simp_all;omega)
theorem Bn(t:XW)(z:Int)(r:XY)(ht:okT t)(hr:r.wf)(hp:r.path.length≤1048576)(hz:okI z)(hq:gf t z r)(o:r.op=1∨r.op=2∨¬ (1≤r.op∧r.op≤5)):ab prog [] 102 [t.av,I z,r.av] (ret (.tup [(bA t z r).1.av,I (bA t z r).2])):=by
 have hgc:=(cA t ht.1 ht.2).re (congrArg B hq.1);have hzc:=(ref_zgood_c z hz).re (congrArg B (decide_eq_true hq.2.1));obtain⟨hs1,hs2⟩:=hq.2.2
 by_cases o1:r.op=1∨r.op=2
 ·rcases o1 with o|o
  ·have hx:=sQ (t:=t) (z:=z) (r:=r) (.inl o)
   rw[o] at hx;have hxw:=cV (z:=z) ht hr hp hz;rw[hx] at hxw;simp only at hxw;have ha:=dF t ⟨z,1,r.session,[],[],0,0⟩ ht.1 ht.2 hxw.1.1 hxw.2 hxw.1.2.2.2.2.1;rw[dR hq (hx)];generalize ah t ⟨z,1,r.session,[],[],0,0⟩=q at ha ⊢;obtain⟨a,es,e⟩:=q;simp only at ha ⊢;refine zJ func102 ntmps102 results102 ?_;simp only[go_sem]
   (refine zW qw (z3 hgc hzc ha) @o (z2 ?_ ?_)<;>(repeat with_reducible intro hc))
   all_goals first
    |(exfalso;omega)
    |(rw[RJ (by omega)];exact zEf (zx @I.eq_1 @S.eq_1);done)
    |(rw[RI (by omega)];exact zEf dfl;done)
  ·have hx:=sQ (t:=t) (z:=z) (r:=r) (.inr o)
   rw[o] at hx;have hxw:=cV (z:=z) ht hr hp hz;rw[hx] at hxw;simp only at hxw;have ha:=dF t ⟨z,2,r.session,[],[],0,0⟩ ht.1 ht.2 hxw.1.1 hxw.2 hxw.1.2.2.2.2.1;rw[dR hq (hx)];generalize ah t ⟨z,2,r.session,[],[],0,0⟩=q at ha ⊢;obtain⟨a,es,e⟩:=q;simp only at ha ⊢;refine zJ func102 ntmps102 results102 ?_;simp only[go_sem]
   (refine zW qw (z3 hgc hzc ha) @o (z2 ?_ ?_)<;>(repeat with_reducible intro hc))
   all_goals first
    |(exfalso;omega)
    |(rw[RJ (by omega)];exact zEf (zx @I.eq_1 @S.eq_1);done)
    |(rw[RI (by omega)];exact zEf dfl;done)
 ·have hx:=II (t:=t) (z:=z) (r:=r) (by omega)
  rw[bG hq hx (by decide)];refine zJ func102 ntmps102 results102 ?_;simp only[go_sem];refine zW qw (z2 hgc hzc) Yj (z1 (fun hc hc hc hc hc hc=>?_))
  all_goals first|(exfalso;omega)|(exact zEf dfl;done)
theorem Ci(t:XW)(z:Int)(r:XY)(ht:okT t)(hr:r.wf)(hp:r.path.length≤1048576)(hz:okI z)(hq:gf t z r)(o:r.op=4):ab prog [] 102 [t.av,I z,r.av] (ret (.tup [(bA t z r).1.av,I (bA t z r).2])):=by
 have hgc:=(cA t ht.1 ht.2).re (congrArg B hq.1);have hzc:=(ref_zgood_c z hz).re (congrArg B (decide_eq_true hq.2.1));obtain⟨hs1,hs2⟩:=hq.2.2;have hri:=aE hq.1;have hx:=HW (t:=t) (z:=z) (r:=r) o;rcases ua t r with⟨c1,cv⟩|⟨c1,c2,cv⟩|⟨c1,c2,c3,cv⟩|⟨c1,c2,c3,c4,cv⟩|⟨c1,c2,c3,c4,cv⟩
 ·skip
  rw[bG hq hx (by omega),cv];refine zJ func102 ntmps102 results102 ?_;simp only[go_sem];refine zW qw (z3 hgc hzc ((bx r.path hp).re (congrArg B c1))) @o (z1 (fun hc hc hc hc hc hc=>?_))
  all_goals first|(exfalso;omega)|(exact zEf dfl;done)
 ·skip
  rw[bG hq hx (by omega),cv];refine zJ func102 ntmps102 results102 ?_;simp only[go_sem];refine zW qw (z4 hgc hzc ((bx r.path hp).re (congrArg B c1)) ((isOpen_c t r.session ht.1.2.2.1).re (congrArg B (R0 c2)))) @o (z1 (fun hc hc hc hc hc hc hc=>?_))
  all_goals first|(exfalso;omega)|(exact zEf dfl;done)
 ·skip
  rw[bG hq hx (by omega),cv];have hgn:=ir t r.path ht.1.2.1.1 hri;generalize (aw t r.path).2=e at c3 cv hgn ⊢;refine zJ func102 ntmps102 results102 ?_;simp only[go_sem];refine zW qw (zc hgc (z4 hzc ((bx r.path hp).re (congrArg B c1)) ((isOpen_c t r.session ht.1.2.2.1).re (congrArg B (decide_eq_true c2))) hgn)) @o (z1 (fun hc hc hc hc hc hc hc hc=>?_))
  all_goals first|(exfalso;omega)|(exact zEf dfl;done)
 ·skip
  rw[bG hq hx (by omega),cv];have hgn:=ir t r.path ht.1.2.1.1 hri;rw[c3] at hgn;refine zJ func102 ntmps102 results102 ?_;simp only[go_sem];refine zW qw (zc hgc (z4 hzc ((bx r.path hp).re (congrArg B c1)) ((isOpen_c t r.session ht.1.2.2.1).re (congrArg B (decide_eq_true c2))) hgn)) @o (z1 (fun hc hc hc hc hc hc hc hc hc=>?_))
  all_goals first|(exfalso;omega)|(exact zEf dfl;done)
 ·rw[cv] at hx
  have hgn:=ir t r.path ht.1.2.1.1 hri;rw[c3] at hgn;have hxw:=cV (z:=z) ht hr hp hz;rw[hx] at hxw;simp only at hxw;have ha:=dF t ⟨z,4,r.session,r.path,[],0,0⟩ ht.1 ht.2 hxw.1.1 hxw.2 hxw.1.2.2.2.2.1;rw[dR hq (hx)];generalize ah t ⟨z,4,r.session,r.path,[],0,0⟩=q at ha ⊢;obtain⟨a,es,e⟩:=q;simp only at ha ⊢;refine zJ func102 ntmps102 results102 ?_;simp only[go_sem]
  (refine zW qw (zc hgc (zc hzc (z4 ((bx r.path hp).re (congrArg B c1)) ((isOpen_c t r.session ht.1.2.2.1).re (congrArg B (decide_eq_true c2))) hgn ha))) @o (z2 ?_ ?_)<;>(repeat with_reducible intro hc))
  all_goals first
   |(exfalso;omega)
   |(rw[RJ (by omega)];exact zEf (zx @I.eq_1 @S.eq_1);done)
   |(rw[RI (by omega)];exact zEf dfl;done)
theorem At(t:XW)(z:Int)(r:XY)(ht:okT t)(hr:r.wf)(hp:r.path.length≤1048576)(hz:okI z)(hq:gf t z r)(o:r.op=5):ab prog [] 102 [t.av,I z,r.av] (ret (.tup [(bA t z r).1.av,I (bA t z r).2])):=by
 have hgc:=(cA t ht.1 ht.2).re (congrArg B hq.1);have hzc:=(ref_zgood_c z hz).re (congrArg B (decide_eq_true hq.2.1));obtain⟨hs1,hs2⟩:=hq.2.2;have hri:=aE hq.1;have hx:=Mi (t:=t) (z:=z) (r:=r) o;rcases ua t r with⟨c1,cv⟩|⟨c1,c2,cv⟩|⟨c1,c2,c3,cv⟩|⟨c1,c2,c3,c4,cv⟩|⟨c1,c2,c3,c4,cv⟩
 ·skip
  rw[bG hq hx (by omega),cv];refine zJ func102 ntmps102 results102 ?_;simp only[go_sem];refine zW qw (z4 LB hgc hzc ((bx r.path hp).re (congrArg B c1))) @o (z1 (fun hc hc hc hc hc hc=>?_))
  all_goals first|(exfalso;omega)|(exact zEf dfl;done)
 ·skip
  rw[bG hq hx (by omega),cv];refine zJ func102 ntmps102 results102 ?_;simp only[go_sem];refine zW qw (zc LB (z4 hgc hzc ((bx r.path hp).re (congrArg B c1)) ((isOpen_c t r.session ht.1.2.2.1).re (congrArg B (R0 c2))))) @o (z1 (fun hc hc hc hc hc hc hc=>?_))
  all_goals first|(exfalso;omega)|(exact zEf dfl;done)
 ·skip
  rw[bG hq hx (by omega),cv];have hgn:=ir t r.path ht.1.2.1.1 hri;generalize (aw t r.path).2=e at c3 cv hgn ⊢;refine zJ func102 ntmps102 results102 ?_;simp only[go_sem];refine zW qw (zc LB (zc hgc (z4 hzc ((bx r.path hp).re (congrArg B c1)) ((isOpen_c t r.session ht.1.2.2.1).re (congrArg B (decide_eq_true c2))) hgn))) @o (z1 (fun hc hc hc hc hc hc hc hc=>?_))
  all_goals first|(exfalso;omega)|(exact zEf dfl;done)
 ·skip
  rw[bG hq hx (by omega),cv];have hgn:=ir t r.path ht.1.2.1.1 hri;rw[c3] at hgn;refine zJ func102 ntmps102 results102 ?_;simp only[go_sem];refine zW qw (zc LB (zc hgc (z4 hzc ((bx r.path hp).re (congrArg B c1)) ((isOpen_c t r.session ht.1.2.2.1).re (congrArg B (decide_eq_true c2))) hgn))) @o (z1 (fun hc hc hc hc hc hc hc hc hc=>?_))
  all_goals first|(exfalso;omega)|(exact zEf dfl;done)
 ·rw[cv] at hx
  have hgn:=ir t r.path ht.1.2.1.1 hri;rw[c3] at hgn;have hxw:=cV (z:=z) ht hr hp hz;rw[hx] at hxw;simp only at hxw;have ha:=dF t ⟨z,5,r.session,r.path,r.data,IntKind.i64.wrap ((aw t r.path).1.stat.version+1),0⟩ ht.1 ht.2 hxw.1.1 hxw.2 hxw.1.2.2.2.2.1;rw[dR hq (hx)];generalize ah t ⟨z,5,r.session,r.path,r.data,IntKind.i64.wrap ((aw t r.path).1.stat.version+1),0⟩=q at ha ⊢;obtain⟨a,es,e⟩:=q;simp only at ha ⊢;refine zJ func102 ntmps102 results102 ?_;simp only[go_sem]
  (refine zW qw (zc LB (zc hgc (zc hzc (z4 ((bx r.path hp).re (congrArg B c1)) ((isOpen_c t r.session ht.1.2.2.1).re (congrArg B (decide_eq_true c2))) hgn ha)))) @o (z2 ?_ ?_)<;>(repeat with_reducible intro hc))
  all_goals first
   |(exfalso;omega)
   |(rw[RJ (by omega)];exact zEf (zx @I.eq_1 @S.eq_1);done)
   |(rw[RI (by omega)];exact zEf dfl;done)
theorem D7:Pls [XS [0,1,2,3,4,6,7] (.fork 5 (XS [8,9,10,11] .done) 8 (XS [5,9,10,11] .done))]:=pls _
attribute [go_sem] ntmps175 results175
theorem K9{t:XW}{z:Int}{r:XY}(o:r.op=3):fE t z r=(⟨z,3,r.session,kN t r,r.data,0,kJ r⟩,mb t r):=by unfold fE;rw[RI (by omega),RJ o]
inductive CreC (t:XW) (r:XY):Prop where
 |flags (h:r.flags<0∨3<r.flags) (e:mb t r=3)
 |form (h:0≤r.flags∧r.flags≤3) (h2:¬ (splitP r.path).2=0) (e:mb t r=2)
 |shut (h:0≤r.flags∧r.flags≤3) (h2:(splitP r.path).2=0) (h3:¬ r.session∈t.sessions) (e:mb t r=12)
 |plain (h:r.flags=0∨r.flags=1) (h2:(splitP r.path).2=0) (h3:r.session∈t.sessions) (e:mb t r=0)
 |lack (h:r.flags=2∨r.flags=3) (h2:(splitP r.path).2=0) (h3:r.session∈t.sessions) (h4:¬ (aw t (splitP r.path).1.1).2=0) (e:mb t r=(aw t (splitP r.path).1.1).2)
 |ser (h:r.flags=2∨r.flags=3) (h2:(splitP r.path).2=0) (h3:r.session∈t.sessions) (h4:(aw t (splitP r.path).1.1).2=0) (h5:¬ (dP (splitP r.path).1.2 (aw t (splitP r.path).1.1).1.stat.cversion).2=0) (e:mb t r=(dP (splitP r.path).1.2 (aw t (splitP r.path).1.1).1.stat.cversion).2)
 |join (h:r.flags=2∨r.flags=3) (h2:(splitP r.path).2=0) (h3:r.session∈t.sessions) (h4:(aw t (splitP r.path).1.1).2=0) (h5:(dP (splitP r.path).1.2 (aw t (splitP r.path).1.1).1.stat.cversion).2=0) (h6:¬ (df (splitP r.path).1.1 (dP (splitP r.path).1.2 (aw t (splitP r.path).1.1).1.stat.cversion).1).2=0) (e:mb t r=(df (splitP r.path).1.1 (dP (splitP r.path).1.2 (aw t (splitP r.path).1.1).1.stat.cversion).1).2)
 |done (h:r.flags=2∨r.flags=3) (h2:(splitP r.path).2=0) (h3:r.session∈t.sessions) (h4:(aw t (splitP r.path).1.1).2=0) (h5:(dP (splitP r.path).1.2 (aw t (splitP r.path).1.1).1.stat.cversion).2=0) (h6:(df (splitP r.path).1.1 (dP (splitP r.path).1.2 (aw t (splitP r.path).1.1).1.stat.cversion).1).2=0) (e:mb t r=0)
theorem vD(t:XW)(r:XY):CreC t r:=by
 by_cases a:r.flags<0∨3<r.flags
 ·exact .flags a (by unfold mb sH qN;rw[RJ a])
 by_cases b:(splitP r.path).2=0
 case neg=>exact .form (by omega) b (by unfold mb sH qN;rw[RI a,RI b])
 by_cases c:r.session∈t.sessions
 case neg=>exact .shut (by omega) b c (by unfold mb sH qN;rw[RI a,RJ b,RI c])
 by_cases d:2≤r.flags
 case neg=>exact .plain (by omega) b c (by unfold mb sH qN;rw[RI a,RJ b,RJ c,RI d])
 by_cases e:(aw t (splitP r.path).1.1).2=0
 case neg=>exact .lack (by omega) b c e (by unfold mb sH qN;rw[RI a,RJ b,RJ c,RJ d,RI e])
 by_cases f:(dP (splitP r.path).1.2 (aw t (splitP r.path).1.1).1.stat.cversion).2=0
 case neg=>exact .ser (by omega) b c e f (by unfold mb sH qN;rw[RI a,RJ b,RJ c,RJ d,RJ e,RI f])
 by_cases g:(df (splitP r.path).1.1 (dP (splitP r.path).1.2 (aw t (splitP r.path).1.1).1.stat.cversion).1).2=0
 ·exact .done (by omega) b c e f g (by unfold mb sH qN;rw[RI a,RJ b,RJ c,RJ d,RJ e,RJ f,g])
 ·exact .join (by omega) b c e f g (by unfold mb sH qN;rw[RI a,RJ b,RJ c,RJ d,RJ e,RJ f])
theorem Mr(t:XW)(z:Int)(r:XY)(ht:okT t)(hr:r.wf)(hp:r.path.length≤1048576)(hz:okI z)(hq:gf t z r)(o:r.op=3):ab prog [] 105 [t.av,I z,r.av] (ret (.tup [(bA t z r).1.av,I (bA t z r).2])):=by
 have hgc:=(lk t ht.1).re (congrArg B hq.1);have hzc:=(zgood_c z).re (congrArg B (decide_eq_true hq.2.1));obtain⟨hs1,hs2⟩:=hq.2.2;have hri:=aE hq.1;have hrs:=gh hq.1;obtain⟨sl1,sl2⟩:=rC r.path;have hcv:=(EO ht.1 (splitP r.path).1.1).2.2.2.2.2.2.1;have hsr:=Eu (splitP r.path).1.2 (aw t (splitP r.path).1.1).1.stat.cversion;have hx:=K9 (t:=t) (z:=z) (r:=r) o;have hcc:=vD t r;have m0:Int.tmod 0 2=0:=by decide
 have m1:Int.tmod 1 2=1:=by decide
 have m2:Int.tmod 2 2=0:=by decide
 have m3:Int.tmod 3 2=1:=by decide
 have b1:bits .and .i64 0 2=0:=by decide +kernel
 have b2:bits .and .i64 1 2=0:=by decide +kernel
 have b3:bits .and .i64 2 2=2:=by decide +kernel
 have b4:bits .and .i64 3 2=2:=by decide +kernel
 have b5:bits .and .i64 0 1=0:=by decide +kernel
 have b6:bits .and .i64 1 1=1:=by decide +kernel
 have b7:bits .and .i64 2 1=0:=by decide +kernel
 have b8:bits .and .i64 3 1=1:=by decide +kernel
 rcases hcc with⟨h,e⟩|⟨h,h2,e⟩|⟨h,h2,h3,e⟩|⟨h,h2,h3,e⟩|⟨h,h2,h3,h4,e⟩|⟨h,h2,h3,h4,h5,e⟩|⟨h,h2,h3,h4,h5,h6,e⟩|⟨h,h2,h3,h4,h5,h6,e⟩
 ·skip
  rw[bG hq hx (by omega),e];refine zJ func105 ntmps105 results105 ?_;simp only[go_sem];refine zW qw (z4 D7 (ic func175) hgc hzc) @o (z1 (fun hc hc hc hc hc hc=>?_))
  all_goals first|(exfalso;omega)|(exact zEf dfl;done)
 ·skip
  rw[bG hq hx (by omega),e];have hsp:=split_c r.path hr.2.2.1;refine zJ func105 ntmps105 results105 ?_;simp only[go_sem];refine zW qw (zc D7 (z4 (ic func175) hgc hzc hsp)) @o (z1 (fun hc hc hc hc hc hc hc=>?_))
  all_goals first|(exfalso;omega)|(exact zEf dfl;done)
 ·skip
  rw[bG hq hx (by omega),e];have hsp:=split_c r.path hr.2.2.1;rw[h2] at hsp;have hop:=(open_c t r.session ht.1.2.2.1 hrs).re (congrArg B (R0 h3));refine zJ func105 ntmps105 results105 ?_;simp only[go_sem];refine zW qw (zc D7 (zc (ic func175) (z4 hgc hzc hsp hop))) @o (z1 (fun hc hc hc hc hc hc hc hc=>?_))
  all_goals first|(exfalso;omega)|(exact zEf dfl;done)
 ·rw[e] at hx
  have hsp:=split_c r.path hr.2.2.1;rw[h2] at hsp;have hop:=(open_c t r.session ht.1.2.2.1 hrs).re (congrArg B (decide_eq_true h3));rcases h with h|h
  ·skip
   have hcp:kN t r=r.path:=by unfold kN;rw[RI (by omega)]
   have hco:kJ r=0:=by unfold kJ;rw[RI (by omega)]
   rw[hcp,hco] at hx;have hxw:=cV (z:=z) ht hr hp hz;rw[hx] at hxw;simp only at hxw;have ha:=iz t ⟨z,3,r.session,r.path,r.data,0,0⟩ ht.1 hxw.1.2.2.2.1 hxw.1.2.2.2.2.1;rw[dR hq hx];generalize ah t ⟨z,3,r.session,r.path,r.data,0,0⟩=q at ha ⊢;obtain⟨a,es,e⟩:=q;simp only at ha ⊢;refine zJ func105 ntmps105 results105 ?_;simp only[go_sem]
   (refine zW qw (zc D7 (zc (ic func175) (zc hgc (z4 hzc hsp hop ha)))) (zx @o (zx @h (zx @b1 (zx @b2 (zx @b3 (zx @b4 (zx @b5 (zx @b6 (zx @b7 @b8))))))))) (z2 ?_ ?_)<;>(repeat with_reducible intro hc))
   all_goals first
    |(exfalso;omega)
    |(rw[RJ (by omega)];exact zEf (zx @I.eq_1 @S.eq_1);done)
    |(rw[RI (by omega)];exact zEf dfl;done)
  ·skip
   have hcp:kN t r=r.path:=by unfold kN;rw[RI (by omega)]
   have hco:kJ r=r.session:=by unfold kJ;rw[RJ (by omega)]
   rw[hcp,hco] at hx;have hxw:=cV (z:=z) ht hr hp hz;rw[hx] at hxw;simp only at hxw;have ha:=iz t ⟨z,3,r.session,r.path,r.data,0,r.session⟩ ht.1 hxw.1.2.2.2.1 hxw.1.2.2.2.2.1;rw[dR hq hx];generalize ah t ⟨z,3,r.session,r.path,r.data,0,r.session⟩=q at ha ⊢;obtain⟨a,es,e⟩:=q;simp only at ha ⊢;refine zJ func105 ntmps105 results105 ?_;simp only[go_sem]
   (refine zW qw (zc D7 (zc (ic func175) (zc hgc (z4 hzc hsp hop ha)))) (zx @o (zx @h (zx @b1 (zx @b2 (zx @b3 (zx @b4 (zx @b5 (zx @b6 (zx @b7 @b8))))))))) (z2 ?_ ?_)<;>(repeat with_reducible intro hc))
   all_goals first
    |(exfalso;omega)
    |(rw[RJ (by omega)];exact zEf (zx @I.eq_1 @S.eq_1);done)
    |(rw[RI (by omega)];exact zEf dfl;done)
 ·skip
  rw[bG hq hx (by omega),e];have hsp:=split_c r.path hr.2.2.1;rw[h2] at hsp;have hop:=(open_c t r.session ht.1.2.2.1 hrs).re (congrArg B (decide_eq_true h3));have hgn:=lF t (splitP r.path).1.1 ht.1.2.1.1 hri;generalize (aw t (splitP r.path).1.1).2=e1 at h4 hgn ⊢;rcases h with h|h
  all_goals
   refine zJ func105 ntmps105 results105 ?_;simp only[go_sem]
   (repeat' first
|(with_reducible refine AR.f ?_)
|(with_reducible refine AWP.cond rfl ?_ ?_<;>intro hc<;>(try simp only[hcs,R1,Sa,Sb] at hc))
|(refine bJ fun Kk hKk=>(cr dn func175 rfl (by kernel_rfl) (by simp[ntmps175]) ?_);simp only[ntmps175,results175,SK,gE,Sd,RQ,Nat.reduceAdd,RL,R3,go_sem])
|((first|((first|refine zP ((XS [0,1,2,3,4,6,7] (.fork 5 (XS [8,9,10,11] .done) 8 (XS [5,9,10,11] .done)))) ?_|(with_reducible first|refine zR ?_));intro K hK)|((first|refine zA hgc ?_ ?_ ?_ ?_ ?_|refine zA hzc ?_ ?_ ?_ ?_ ?_|refine zA hsp ?_ ?_ ?_ ?_ ?_|refine zA hop ?_ ?_ ?_ ?_ ?_|refine zA hgn ?_ ?_ ?_ ?_ ?_);(focus exact rfl);(focus exact rfl);iterate 2 (focus((try simp(disch:=omega) only[go_sem,aa,o,h,b1,b2,b3,b4,b5,b6,b7,b8])<;>(try omega)<;>fail)))|((first|refine zN hgn rfl ?_ ?_|refine zX hgc rfl ?_ ?_|refine zX hzc rfl ?_ ?_|refine zX hsp rfl ?_ ?_|refine zX hop rfl ?_ ?_|refine zX hgn rfl ?_ ?_|refine zY hgn ?_ ?_);(focus((try simp(disch:=omega) only[go_sem,aa,o,h,b1,b2,b3,b4,b5,b6,b7,b8])<;>(try omega)<;>fail)))|(refine aend_in (v:=?_) hKk (by first|exact .inl rfl|exact .inr rfl) ?_ ?_ ?_;rotate_left;(focus((try simp(disch:=omega) only[go_sem,aa,o,h,b1,b2,b3,b4,b5,b6,b7,b8])<;>(try omega)<;>fail));(focus((try simp(disch:=omega) only[go_sem,aa,o,h,b1,b2,b3,b4,b5,b6,b7,b8])<;>(first|done|exact rfl)));clear hKk Kk))<;>(try simp(disch:=omega) only[go_sem,aa,o,h,b1,b2,b3,b4,b5,b6,b7,b8])<;>(repeat' with_reducible refine Su ?_ ?_)<;>(try(with_reducible refine hK _ ?_;clear hK K)))
|omega)
   all_goals first|(exfalso;omega)|(exact zEf dfl;done)
 ·skip
  rw[bG hq hx (by omega),e];have hsp:=split_c r.path hr.2.2.1;rw[h2] at hsp;have hop:=(open_c t r.session ht.1.2.2.1 hrs).re (congrArg B (decide_eq_true h3));have hgn:=lF t (splitP r.path).1.1 ht.1.2.1.1 hri;rw[h4] at hgn;have hse:=vu (splitP r.path).1.2 (aw t (splitP r.path).1.1).1.stat.cversion (by omega) hcv;generalize (dP (splitP r.path).1.2 (aw t (splitP r.path).1.1).1.stat.cversion).2=e1 at h5 hse ⊢;rcases h with h|h
  all_goals
   refine zJ func105 ntmps105 results105 ?_;simp only[go_sem]
   (repeat' first
|(with_reducible refine AR.f ?_)
|(with_reducible refine AWP.cond rfl ?_ ?_<;>intro hc<;>(try simp only[hcs,R1,Sa,Sb] at hc))
|(refine bJ fun Kk hKk=>(cr dn func175 rfl (by kernel_rfl) (by simp[ntmps175]) ?_);simp only[ntmps175,results175,SK,gE,Sd,RQ,Nat.reduceAdd,RL,R3,go_sem])
|((first|((first|refine zP ((XS [0,1,2,3,4,6,7] (.fork 5 (XS [8,9,10,11] .done) 8 (XS [5,9,10,11] .done)))) ?_|(with_reducible first|refine zR ?_));intro K hK)|((first|refine zA hgc ?_ ?_ ?_ ?_ ?_|refine zA hzc ?_ ?_ ?_ ?_ ?_|refine zA hsp ?_ ?_ ?_ ?_ ?_|refine zA hop ?_ ?_ ?_ ?_ ?_|refine zA hgn ?_ ?_ ?_ ?_ ?_|refine zA hse ?_ ?_ ?_ ?_ ?_);(focus exact rfl);(focus exact rfl);iterate 2 (focus((try simp(disch:=omega) only[go_sem,aa,o,h,b1,b2,b3,b4,b5,b6,b7,b8])<;>(try omega)<;>fail)))|((first|refine zN hgn rfl ?_ ?_|refine zX hgc rfl ?_ ?_|refine zX hzc rfl ?_ ?_|refine zX hsp rfl ?_ ?_|refine zX hop rfl ?_ ?_|refine zX hgn rfl ?_ ?_|refine zY hgn ?_ ?_|refine zX hse rfl ?_ ?_);(focus((try simp(disch:=omega) only[go_sem,aa,o,h,b1,b2,b3,b4,b5,b6,b7,b8])<;>(try omega)<;>fail)))|(refine aend_in (v:=?_) hKk (by first|exact .inl rfl|exact .inr rfl) ?_ ?_ ?_;rotate_left;(focus((try simp(disch:=omega) only[go_sem,aa,o,h,b1,b2,b3,b4,b5,b6,b7,b8])<;>(try omega)<;>fail));(focus((try simp(disch:=omega) only[go_sem,aa,o,h,b1,b2,b3,b4,b5,b6,b7,b8])<;>(first|done|exact rfl)));clear hKk Kk))<;>(try simp(disch:=omega) only[go_sem,aa,o,h,b1,b2,b3,b4,b5,b6,b7,b8])<;>(repeat' with_reducible refine Su ?_ ?_)<;>(try(with_reducible refine hK _ ?_;clear hK K)))
|omega)
   all_goals first|(exfalso;omega)|(exact zEf dfl;done)
 ·skip
  rw[bG hq hx (by omega),e];have hsp:=split_c r.path hr.2.2.1;rw[h2] at hsp;have hop:=(open_c t r.session ht.1.2.2.1 hrs).re (congrArg B (decide_eq_true h3));have hgn:=lF t (splitP r.path).1.1 ht.1.2.1.1 hri;rw[h4] at hgn;have hse:=vu (splitP r.path).1.2 (aw t (splitP r.path).1.1).1.stat.cversion (by omega) hcv;rw[h5] at hse;have hjo:=I0 (splitP r.path).1.1 (dP (splitP r.path).1.2 (aw t (splitP r.path).1.1).1.stat.cversion).1 (by unfold okS;omega) (by unfold okS;omega);generalize (df (splitP r.path).1.1 (dP (splitP r.path).1.2 (aw t (splitP r.path).1.1).1.stat.cversion).1).2=e1 at h6 hjo ⊢;rcases h with h|h
  all_goals
   refine zJ func105 ntmps105 results105 ?_;simp only[go_sem]
   (repeat' first
|(with_reducible refine AR.f ?_)
|(with_reducible refine AWP.cond rfl ?_ ?_<;>intro hc<;>(try simp only[hcs,R1,Sa,Sb] at hc))
|(refine bJ fun Kk hKk=>(cr dn func175 rfl (by kernel_rfl) (by simp[ntmps175]) ?_);simp only[ntmps175,results175,SK,gE,Sd,RQ,Nat.reduceAdd,RL,R3,go_sem])
|((first|((first|refine zP ((XS [0,1,2,3,4,6,7] (.fork 5 (XS [8,9,10,11] .done) 8 (XS [5,9,10,11] .done)))) ?_|(with_reducible first|refine zR ?_));intro K hK)|((first|refine zA hgc ?_ ?_ ?_ ?_ ?_|refine zA hzc ?_ ?_ ?_ ?_ ?_|refine zA hsp ?_ ?_ ?_ ?_ ?_|refine zA hop ?_ ?_ ?_ ?_ ?_|refine zA hgn ?_ ?_ ?_ ?_ ?_|refine zA hse ?_ ?_ ?_ ?_ ?_|refine zA hjo ?_ ?_ ?_ ?_ ?_);(focus exact rfl);(focus exact rfl);iterate 2 (focus((try simp(disch:=omega) only[go_sem,aa,o,h,b1,b2,b3,b4,b5,b6,b7,b8])<;>(try omega)<;>fail)))|((first|refine zN hgn rfl ?_ ?_|refine zX hgc rfl ?_ ?_|refine zX hzc rfl ?_ ?_|refine zX hsp rfl ?_ ?_|refine zX hop rfl ?_ ?_|refine zX hgn rfl ?_ ?_|refine zY hgn ?_ ?_|refine zX hse rfl ?_ ?_|refine zX hjo rfl ?_ ?_);(focus((try simp(disch:=omega) only[go_sem,aa,o,h,b1,b2,b3,b4,b5,b6,b7,b8])<;>(try omega)<;>fail)))|(refine aend_in (v:=?_) hKk (by first|exact .inl rfl|exact .inr rfl) ?_ ?_ ?_;rotate_left;(focus((try simp(disch:=omega) only[go_sem,aa,o,h,b1,b2,b3,b4,b5,b6,b7,b8])<;>(try omega)<;>fail));(focus((try simp(disch:=omega) only[go_sem,aa,o,h,b1,b2,b3,b4,b5,b6,b7,b8])<;>(first|done|exact rfl)));clear hKk Kk))<;>(try simp(disch:=omega) only[go_sem,aa,o,h,b1,b2,b3,b4,b5,b6,b7,b8])<;>(repeat' with_reducible refine Su ?_ ?_)<;>(try(with_reducible refine hK _ ?_;clear hK K)))
|omega)
   all_goals first|(exfalso;omega)|(exact zEf dfl;done)
 ·rw[e] at hx
  have hsp:=split_c r.path hr.2.2.1;rw[h2] at hsp;have hop:=(open_c t r.session ht.1.2.2.1 hrs).re (congrArg B (decide_eq_true h3));have hgn:=lF t (splitP r.path).1.1 ht.1.2.1.1 hri;rw[h4] at hgn;have hse:=vu (splitP r.path).1.2 (aw t (splitP r.path).1.1).1.stat.cversion (by omega) hcv;rw[h5] at hse;have hjo:=I0 (splitP r.path).1.1 (dP (splitP r.path).1.2 (aw t (splitP r.path).1.1).1.stat.cversion).1 (by unfold okS;omega) (by unfold okS;omega);rw[h6] at hjo;rcases h with h|h
  ·skip
   have hcp:kN t r=(df (splitP r.path).1.1 (dP (splitP r.path).1.2 (aw t (splitP r.path).1.1).1.stat.cversion).1).1:=by unfold kN;rw[RJ (by omega)];rfl
   have hco:kJ r=0:=by unfold kJ;rw[RI (by omega)]
   rw[hcp,hco] at hx;have hxw:=cV (z:=z) ht hr hp hz;rw[hx] at hxw;simp only at hxw;have ha:=iz t ⟨z,3,r.session,(df (splitP r.path).1.1 (dP (splitP r.path).1.2 (aw t (splitP r.path).1.1).1.stat.cversion).1).1,r.data,0,0⟩ ht.1 hxw.1.2.2.2.1 hxw.1.2.2.2.2.1;rw[dR hq hx];generalize ah t ⟨z,3,r.session,(df (splitP r.path).1.1 (dP (splitP r.path).1.2 (aw t (splitP r.path).1.1).1.stat.cversion).1).1,r.data,0,0⟩=q at ha ⊢;obtain⟨a,es,e⟩:=q;simp only at ha ⊢;refine zJ func105 ntmps105 results105 ?_;simp only[go_sem]
   (refine zW qw (zc D7 (zc (ic func175) (zc hgc (zc hzc (zc hsp (zc hop (z4 hgn hse hjo ha))))))) (zx @o (zx @h (zx @b1 (zx @b2 (zx @b3 (zx @b4 (zx @b5 (zx @b6 (zx @b7 @b8))))))))) (z2 ?_ ?_)<;>(repeat with_reducible intro hc))
   all_goals first
    |(exfalso;omega)
    |(rw[RJ (by omega)];exact zEf (zx @I.eq_1 @S.eq_1);done)
    |(rw[RI (by omega)];exact zEf dfl;done)
  ·skip
   have hcp:kN t r=(df (splitP r.path).1.1 (dP (splitP r.path).1.2 (aw t (splitP r.path).1.1).1.stat.cversion).1).1:=by unfold kN;rw[RJ (by omega)];rfl
   have hco:kJ r=r.session:=by unfold kJ;rw[RJ (by omega)]
   rw[hcp,hco] at hx;have hxw:=cV (z:=z) ht hr hp hz;rw[hx] at hxw;simp only at hxw;have ha:=iz t ⟨z,3,r.session,(df (splitP r.path).1.1 (dP (splitP r.path).1.2 (aw t (splitP r.path).1.1).1.stat.cversion).1).1,r.data,0,r.session⟩ ht.1 hxw.1.2.2.2.1 hxw.1.2.2.2.2.1;rw[dR hq hx];generalize ah t ⟨z,3,r.session,(df (splitP r.path).1.1 (dP (splitP r.path).1.2 (aw t (splitP r.path).1.1).1.stat.cversion).1).1,r.data,0,r.session⟩=q at ha ⊢;obtain⟨a,es,e⟩:=q;simp only at ha ⊢;refine zJ func105 ntmps105 results105 ?_;simp only[go_sem]
   (refine zW qw (zc D7 (zc (ic func175) (zc hgc (zc hzc (zc hsp (zc hop (z4 hgn hse hjo ha))))))) (zx @o (zx @h (zx @b1 (zx @b2 (zx @b3 (zx @b4 (zx @b5 (zx @b6 (zx @b7 @b8))))))))) (z2 ?_ ?_)<;>(repeat with_reducible intro hc))
   all_goals first
    |(exfalso;omega)
    |(rw[RJ (by omega)];exact zEf (zx @I.eq_1 @S.eq_1);done)
    |(rw[RI (by omega)];exact zEf dfl;done)
theorem yE:Pls [XS [0,1,2,4] (.fork 3 (XS [5,6,7] .done) 5 (XS [3,6,7] .done))]:=pls _
end Go.Proofs.YtjcooccnfkfjhaaGreatDoor
