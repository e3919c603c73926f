/- What the law leans on. No condition. -/
import Derived.Test.YtjcooccnfkfjhaaGreatDoorPlyK6
namespace Go.Proofs.YtjcooccnfkfjhaaGreatDoor
set_option maxHeartbeats 32000000
set_option linter.unusedVariables false
set_option linter.unusedSimpArgs false
open Go Go.RowKit Tryz
theorem B7:Pls [XS [0,1,3,4,7,8,9,10] (.forks 2 (XS [5] (.forks 6 (.fork 11 (.fork 12 (XS [13,14,15,16,17,18] .done) 16 (XS [12,13,14,15,17,18] .done)) 16 (XS [11,12,13,14,15,17,18] .done)) 11 (.fork 6 (.fork 12 (XS [13,14,15,16,17,18] .done) 16 (XS [12,13,14,15,17,18] .done)) 16 (XS [6,12,13,14,15,17,18] .done)) 16 (XS [6,11,12,13,14,15,17,18] .done))) 11 (.fork 2 (XS [5] (.fork 6 (.fork 12 (XS [13,14,15,16,17,18] .done) 16 (XS [12,13,14,15,17,18] .done)) 16 (XS [6,12,13,14,15,17,18] .done))) 16 (XS [2,5,6,12,13,14,15,17,18] .done)) 16 (XS [2,5,6,11,12,13,14,15,17,18] .done)),XS [0,1,2,3,4,5,6,7,8,9,10,11,12,13,14,15] .done,XS [0,1,2,4,5] (.forks 3 (.fork 6 (.fork 7 (XS [8,9,10,11,12,13] .done) 11 (XS [7,8,9,10,12,13] .done)) 11 (XS [6,7,8,9,10,12,13] .done)) 6 (.fork 3 (.fork 7 (XS [8,9,10,11,12,13] .done) 11 (XS [7,8,9,10,12,13] .done)) 11 (XS [3,7,8,9,10,12,13] .done)) 11 (XS [3,6,7,8,9,10,12,13] .done)),XS [0,1,2,3,4,5,6,7] .done,XS [0,1,2,3,4,5,6,7,8,9,10,11,12,13] .done]:=pls _
set_option maxRecDepth 100000
structure RdOk (w:AWorld):Prop where
 l:WL w
 t:∀ i,i<3→(w.s i).tree.nodes.length*88≤140737488351232∧aF (ar (w.s i).tree)
 v:∀ i,i<3→(w.s i).watches.length≤100000
 c:∀ i,i<16→(w.c i).cache.length≤100000∧aF ((w.c i).cache.map AEntry.path)
theorem xx{c:X0}{z:Int}(h:(gv c z).2=0):(gv c z).1.cache=c.cache∧(gv c z).1.session=c.session:=by
 unfold gv at h ⊢
 by_cases hz:z<c.seen
 ·rw[RJ hz] at h;exact absurd h (by decide)
 ·rw[RI hz];exact⟨rfl,rfl⟩
theorem Cj{w:AWorld}{kind:Int}{k i:Nat}{rq:XY}{lost slow keep:Int}{watch:Bool}(h1:¬ ((k:Int)<0∨16≤(k:Int)∨(i:Int)<0∨3≤(i:Int))){n:XU×Int}{c:X0×Int}(hn:aw (w.s i).tree rq.path=n)(hc:gv (w.c k) (w.s i).tree.zxid=c) :
  ig w ⟨kind,k,i,rq,lost,slow,keep,watch⟩=if(w.s i).up=false then(w,noR 14) else if c.2≠0 then(w,noR c.2) else
   if watch=true then if(jH (w.s i).watches ⟨c.1.session,1,rq.path⟩).2≠0 then(w,noR (jH (w.s i).watches ⟨c.1.session,1,rq.path⟩).2) else
    ((w.setS i { w.s i with watches:=(jH (w.s i).watches ⟨c.1.session,1,rq.path⟩).1 }).setC k ⟨c.1.session,c.1.seen,fR c.1.cache ⟨rq.path,n.1.data,decide (n.2=0)⟩⟩,⟨n.2,(w.s i).tree.zxid,n.1.path,n.1.data,n.1.stat,[]⟩)
   else(w.setC k c.1,⟨n.2,(w.s i).tree.zxid,n.1.path,n.1.data,n.1.stat,[]⟩):=by
 subst hn hc;unfold ig;rw[RI h1];rfl
theorem Mw(w:AWorld)(d:X1)(hw:RdOk w)(hdw:d.wf):ab prog (inW w) 56 [.ptr 0 0,d.av] (d6 (ig w d).1 (ig w d).2):=by
 obtain⟨⟨e1,e2,e3⟩,ht,hv,hc16⟩:=hw;obtain⟨kind,client,server,rq,lost,slow,keep,watch⟩:=d;obtain⟨_,hcI,hsI,hrq,_,_,_,_⟩:=hdw;simp only at hcI hsI hrq
 by_cases h1:client<0∨16≤client∨server<0∨3≤server
 ·unfold ig
  simp only;rw[RJ h1];have hcb:(decide (client<0)||decide (16≤client)||decide (server<0)||decide (3≤server))=true:=by rcases h1 with h|h|h|h<;>simp[h]
  unfold inW d6;refine zJ func56 ntmps56 results56 ?_;simp only[go_sem];refine zW qs zn @hcb (z1 (fun hc=>?_))
  all_goals try exact zk3
  all_goals(refine zOp Yj ?_;simp(disch:=omega) only[go_sem,aa];exact Xe (r:=noR 3) (rfl) rfl rfl rfl)
 obtain⟨k,rfl⟩:∃ k:Nat,client=(k:Int):=⟨client.toNat,by omega⟩;obtain⟨i,rfl⟩:∃ i:Nat,server=(i:Int):=⟨server.toNat,by omega⟩;have hk:k<16:=by omega
 have hi:i<3:=by omega
 have hcb:(decide ((k:Int)<0)||decide (16≤(k:Int))||decide ((i:Int)<0)||decide (3≤(i:Int)))=false:=by rw[R0 (by omega),R0 (by omega),R0 (by omega),R0 (by omega)];rfl
 have hti:=ht i hi;have hvi:=hv i hi;have hck:=hc16 k hk;have hgt:=lF (w.s i).tree rq.path hti.1 hti.2;have hsc:=Oo (w.c k) (w.s i).tree.zxid (by omega);have hse:=@xx (w.c k) (w.s i).tree.zxid;have hrd:=@Cj w kind k i rq lost slow keep watch h1 _ _ rfl rfl;rw[hrd];clear hrd;generalize aw (w.s i).tree rq.path=gq at hgt ⊢;obtain⟨gn,ge⟩:=gq;generalize gv (w.c k) (w.s i).tree.zxid=sq at hsc hse ⊢;obtain⟨c,ce⟩:=sq;simp only at hgt hsc hse ⊢;unfold inW d6;refine zJ func56 ntmps56 results56 ?_;simp only[go_sem];refine zW qs zn @hcb (z1 (fun hc=>?_))
 all_goals try exact zk3
 refine Xb [0,3,4] [(5,.ptr 0 (i*10))] [.cells (wC (cw w) 1),.rows 7 (w.done.map ATxn.row),.cells [I kind,I (k:Int),I (i:Int),I rq.op,I rq.session,S rq.path,S rq.data,I rq.version,I rq.flags,I lost,I slow,I keep,B watch],.cells [I 0,I 0,S [],S [],I 0,I 0,I 0,I 0,I 0,I 0,I 0,.d (.sc (.slice none 0 0))]] ?_ ?_
 ·refine zW qw zn Yj (z1 ?_)
  all_goals try exact zk1
  all_goals exact zFr [0,1,2,3] Yj
 simp only[go_sem]
 by_cases hup:(w.s i).up=false
 ·rw[RJ hup]
  refine zW qs zn @hup (z1 (fun hc=>?_))
  all_goals try exact zk3
  all_goals(refine zOp Yj ?_;simp(disch:=omega) only[go_sem,aa];exact Xe (r:=noR 14) (rfl) rfl rfl rfl)
 rw[RI hup];have hup2:(w.s i).up=true:=by simpa using hup
 refine zW qs zn @hup2 (z1 (fun hc=>?_))
 all_goals try exact zk3
 refine Xb [0,3,4,5] [(6,.ptr 4 0),(7,I ce)] [.cells (wC (cw w) 1),.rows 7 (w.done.map ATxn.row),.cells [I kind,I (k:Int),I (i:Int),I rq.op,I rq.session,S rq.path,S rq.data,I rq.version,I rq.flags,I lost,I slow,I keep,B watch],.cells [I 0,I 0,S [],S [],I 0,I 0,I 0,I 0,I 0,I 0,I 0,.d (.sc (.slice none 0 0))],.cells [I c.session,I c.seen,.d (.sl 3 (c.cache.map AEntry.row))]] ?_ ?_
 ·refine zW qw (z2 B7 hsc) Yj (zc ?_ (zc ?_ (zc ?_ (zc ?_ (zc ?_ (zc ?_ (zc ?_ (zc ?_ (z4 ?_ ?_ ?_ ?_)))))))))
  all_goals try exact zk1
  all_goals exact zFr [0,1,2,3,4] Yj
 simp only[go_sem]
 by_cases hce:ce=0
 case neg=>
  rw[RJ hce];refine zW qs zn Yj (z1 (fun hc=>?_))
  all_goals try exact zk3
  all_goals(refine zOp Yj ?_;simp(disch:=omega) only[go_sem,aa];exact Xe (r:=noR ce) (rfl) rfl rfl rfl)
 subst hce;rw[RI (fun h=>h rfl)];obtain⟨hcc,hcs⟩:=hse rfl;cases watch
 ·rw[RI (by decide)]
  have k3:=FD e3 hk
  (refine zW qs zn Yj (z3 ?_ ?_ ?_)<;>(repeat with_reducible intro hc))
  all_goals try exact zk3
  refine Xb [0,3,4,5,6] [(7,I ge),(10,.ptr 5 0)] [.cells (wC (cw w) 1),.rows 7 (w.done.map ATxn.row),.cells [I kind,I (k:Int),I (i:Int),I rq.op,I rq.session,S rq.path,S rq.data,I rq.version,I rq.flags,I lost,I slow,I keep,B false],.cells [I 0,I 0,S [],S [],I 0,I 0,I 0,I 0,I 0,I 0,I 0,.d (.sc (.slice none 0 0))],.cells [I c.session,I c.seen,.d (.sl 3 (c.cache.map AEntry.row))],.cells [S gn.path,S gn.data,I gn.stat.czxid,I gn.stat.mzxid,I gn.stat.pzxid,I gn.stat.version,I gn.stat.cversion,I gn.stat.owner,I gn.stat.kids]] ?_ ?_
  ·refine zW qw (z2 B7 hgt) Yj (zc ?_ (zc ?_ (zc ?_ (z4 ?_ ?_ ?_ ?_))))
   all_goals try exact zk1
   all_goals exact zFr [0,1,2,3,4,5] Yj
  simp only[go_sem]
  (refine zW qs zn Yj (z2 ?_ ?_)<;>(try with_reducible intro(K:ASt→Prop) hK)<;>(repeat with_reducible intro hc))
  all_goals try exact zk3
  refine Xb [0,3,4,5,6,7,10] [] [.cells (wC (cw (w.setC k c)) 1),.rows 7 (w.done.map ATxn.row),.cells [I kind,I (k:Int),I (i:Int),I rq.op,I rq.session,S rq.path,S rq.data,I rq.version,I rq.flags,I lost,I slow,I keep,B false],.cells [I 0,I 0,S [],S [],I 0,I 0,I 0,I 0,I 0,I 0,I 0,.d (.sc (.slice none 0 0))],.cells [I c.session,I c.seen,.d (.sl 3 (c.cache.map AEntry.row))],.cells [S gn.path,S gn.data,I gn.stat.czxid,I gn.stat.mzxid,I gn.stat.pzxid,I gn.stat.version,I gn.stat.cversion,I gn.stat.owner,I gn.stat.kids]] ?_ ?_
  ·refine zW qw (z1 B7) Yj (z1 ?_)
   all_goals try exact zk1
   all_goals exact zFr [0,1,2,3,4,5] @k3
  simp only[go_sem];have hws:(w.setC k c).s=w.s:=rfl;refine zW qw (z1 B7) @hws (z1 ?_)
  all_goals try exact zk3
  all_goals(refine zOp Yj ?_;simp(disch:=omega) only[go_sem,aa];exact Xe (r:=⟨ge,(w.s i).tree.zxid,gn.path,gn.data,gn.stat,[]⟩) (rfl) rfl rfl rfl)
 ·rw[RJ rfl]
  have had:=Qn (w.s i).watches ⟨c.session,1,rq.path⟩ (by omega) hrq.2.2.1;generalize jH (w.s i).watches ⟨c.session,1,rq.path⟩=aq at had ⊢;obtain⟨wl,ae⟩:=aq;simp only at had ⊢
  (refine zW qs zn Yj (z3 ?_ ?_ ?_)<;>(repeat with_reducible intro hc))
  all_goals try exact zk3
  refine Xb [0,3,4,5,6] [(8,.d (.sl 3 (wl.map AWatch.row))),(9,I ae)] [.cells (wC (cw w) 1),.rows 7 (w.done.map ATxn.row),.cells [I kind,I (k:Int),I (i:Int),I rq.op,I rq.session,S rq.path,S rq.data,I rq.version,I rq.flags,I lost,I slow,I keep,B true],.cells [I 0,I 0,S [],S [],I 0,I 0,I 0,I 0,I 0,I 0,I 0,.d (.sc (.slice none 0 0))],.cells [I c.session,I c.seen,.d (.sl 3 (c.cache.map AEntry.row))]] ?_ ?_
  ·refine zW qw (z2 B7 had) Yj (z1 ?_)
   all_goals try exact zk1
   all_goals exact zFr [0,1,2,3,4] Yj
  simp only[go_sem]
  by_cases hae:ae=0
  case neg=>
   rw[RJ hae]
   (refine zW qs zn Yj (z2 ?_ ?_)<;>(repeat with_reducible intro hc))
   all_goals try exact zk3
   all_goals(refine zOp Yj ?_;simp(disch:=omega) only[go_sem,aa];exact Xe (r:=noR ae) (rfl) rfl rfl rfl)
  subst hae;rw[RI (fun h=>h rfl)]
  (refine zW qs zn Yj (z2 ?_ ?_)<;>(repeat with_reducible intro hc))
  all_goals try exact zk3
  have k1:=wo e1 hi;have hws:(w.setS i { w.s i with watches:=wl }).s i={ w.s i with watches:=wl }:=by rw[fB (by omega),RJ rfl]
  refine Xb [0,3,4,5,6] [(7,I ge),(10,.ptr 5 0)] [.cells (wC (cw (w.setS i { w.s i with watches:=wl })) 1),.rows 7 (w.done.map ATxn.row),.cells [I kind,I (k:Int),I (i:Int),I rq.op,I rq.session,S rq.path,S rq.data,I rq.version,I rq.flags,I lost,I slow,I keep,B true],.cells [I 0,I 0,S [],S [],I 0,I 0,I 0,I 0,I 0,I 0,I 0,.d (.sc (.slice none 0 0))],.cells [I c.session,I c.seen,.d (.sl 3 (c.cache.map AEntry.row))],.cells [S gn.path,S gn.data,I gn.stat.czxid,I gn.stat.mzxid,I gn.stat.pzxid,I gn.stat.version,I gn.stat.cversion,I gn.stat.owner,I gn.stat.kids]] ?_ ?_
  ·refine zW qw (z2 B7 hgt) Yj (zc ?_ (zc ?_ (zc ?_ (z4 ?_ ?_ ?_ ?_))))
   all_goals try exact zk1
   all_goals exact zFr [0,1,2,3,4,5] @k1
  simp only[go_sem];have hkp:=NF c ⟨rq.path,gn.data,decide (ge=0)⟩ (by rw[hcc];exact hck.1) (by rw[hcc];exact hck.2);have k3:=FD (w:=w.setS i { w.s i with watches:=wl }) e3 hk
  (refine zW qs (z1 hkp) Yj (z2 ?_ ?_)<;>(repeat with_reducible intro hc))
  all_goals try exact zk3
  refine Xb [0,3,4,5,6,7,10] [] [.cells (wC (cw ((w.setS i { w.s i with watches:=wl }).setC k ⟨c.session,c.seen,fR c.cache ⟨rq.path,gn.data,decide (ge=0)⟩⟩)) 1),.rows 7 (w.done.map ATxn.row),.cells [I kind,I (k:Int),I (i:Int),I rq.op,I rq.session,S rq.path,S rq.data,I rq.version,I rq.flags,I lost,I slow,I keep,B true],.cells [I 0,I 0,S [],S [],I 0,I 0,I 0,I 0,I 0,I 0,I 0,.d (.sc (.slice none 0 0))],.cells [I c.session,I c.seen,.d (.sl 3 ((fR c.cache ⟨rq.path,gn.data,decide (ge=0)⟩).map AEntry.row))],.cells [S gn.path,S gn.data,I gn.stat.czxid,I gn.stat.mzxid,I gn.stat.pzxid,I gn.stat.version,I gn.stat.cversion,I gn.stat.owner,I gn.stat.kids]] ?_ ?_
  ·refine zW qw (z1 B7) Yj (z1 ?_)
   all_goals try exact zk1
   all_goals exact zFr [0,1,2,3,4,5] @k3
  simp only[go_sem];have hws2:((w.setS i { w.s i with watches:=wl }).setC k ⟨c.session,c.seen,fR c.cache ⟨rq.path,gn.data,decide (ge=0)⟩⟩).s=(w.setS i { w.s i with watches:=wl }).s:=rfl;refine zW qw (z1 B7) (zx @hws2 @hws) (z1 ?_)
  all_goals try exact zk3
  all_goals(refine zOp Yj ?_;simp(disch:=omega) only[go_sem,aa];exact Xe (r:=⟨ge,(w.s i).tree.zxid,gn.path,gn.data,gn.stat,[]⟩) (rfl) rfl rfl rfl)
theorem dO.log{w:AWorld}{n:Nat}(h:dO w n){j:Nat}(hj:j<3):(w.s j).peer.log.length≤n:=by
 obtain⟨⟨g,es,K,h1⟩,_,_⟩:=h;obtain⟨_,hu,hd⟩:=h1.sv j hj;cases e:(w.s j).up
 ·obtain⟨_,_,hk,_⟩:=hd e
  rw[hk.log];exact RX _
 ·obtain⟨_,_,_,hlg,_⟩:=hu e
  rw[hlg];exact h1.small j hj
theorem dO.few{w:AWorld}{n:Nat}(h:dO w n):w.done.length≤n:=by obtain⟨⟨g,es,K,h1⟩,_,_⟩:=h;obtain⟨i,j,hi,_,_,⟨_,ha⟩,_⟩:=h1.pr.k1;exact R8 h1.ack.length_le (R8 ha (R8 (h1.pr.al i hi) (h1.small i hi)))
theorem dO.wl{w:AWorld}{n:Nat}(h:dO w n):WL w:=by obtain⟨⟨g,es,K,h1⟩,_,_⟩:=h;exact⟨h1.sl,h1.fl,h1.cl⟩
theorem dO.ld{w:AWorld}{n:Nat}(h:dO w n):w.leader<3:=by
 obtain⟨⟨g,es,K,h1⟩,_,_⟩:=h
 by_cases hl:0≤w.leader
 ·exact(h1.pr.ld0 hl).1
 ·omega
theorem dO.sgs{w:AWorld}{n:Nat}(h:dO w n)(hn:n<1000){j:Nat}(hj:j<3):SG (w.s j):=by obtain⟨a,b,c,d,e⟩:=h.server hn hj;exact⟨⟨a,b,fun x hx=>by have:=(d x hx).2;omega⟩,c,e.1⟩
theorem dO.cache{w:AWorld}{n:Nat}(h:dO w n)(hn:n<1000){i:Nat}(hi:i<16):(w.c i).cache.length≤100000∧aF ((w.c i).cache.map AEntry.path):=by obtain⟨_,_,a,b,_⟩:=h.client hn hi;exact⟨by omega,a⟩
theorem dO.el{w:AWorld}{n:Nat}(h:dO w n)(hn:n<1000):ElOk w:=
 ⟨h.wl,fun _ hi=>(h.sgs hn hi).gs,fun i hi=>by have:=h.log hi;omega,fun _ hi=>(h.sgs hn hi).v,fun _ hi=>h.cache hn hi,by have:=h.few;omega⟩
theorem dO.rd{w:AWorld}{n:Nat}(h:dO w n)(hn:n<1000):RdOk w:=
 ⟨h.wl,fun _ hi=>⟨(h.sgs hn hi).gs.t.1.2.1.1,aE (h.sgs hn hi).g⟩,fun _ hi=>by have:=(h.sgs hn hi).v;omega,fun _ hi=>h.cache hn hi⟩
theorem dO.wr{w:AWorld}{n:Nat}(h:dO w n)(hn:n<1000):WrOk w:=by
 refine⟨h.wl,fun _ hi=>h.sgs hn hi,fun i hi=>by have:=h.log hi;omega,fun _ hi=>h.cache hn hi,fun i hi=>(h.client hn hi).1.1,by have:=h.few;omega,h.ld,fun i hi hl0=>.inl ?_⟩;obtain⟨⟨g,es,K,h⟩,_,_⟩:=h;obtain⟨hl3,hlE⟩:=h.pr.ld0 hl0;have hli:w.leader.toNat<3:=by omega
 obtain⟨hlf,hldone⟩:=h.lead hl0;obtain⟨hlu,_⟩:=h.fol hl0 _ hli hlf;obtain⟨ee,he,hk,hlg,hep⟩:=(h.sv _ hli).2.1 hlu;obtain⟨z0,z1,z2⟩:=h.lastOk hli;obtain⟨n1,n2,n3,n4⟩:=yH (p:=(w.s w.leader.toNat).peer) (n:=n) (by omega) h.pr.es0 h.pr.esn (by rw[hep,hlE]) (by rw[hlg];exact z0) (by rw[hlg];exact z1) (by rw[hlg];exact z2);rw[hlg] at n4;rcases(h.cli _ hi).2.2.2.2 hl0 with a|a<;>omega
theorem dO.deed{w:AWorld}{n:Nat}(h:dO w n)(d:Int):dO { w with deeds:=d } n:=by obtain⟨⟨g,es,K,h1⟩,h2,h3⟩:=h;exact⟨⟨g,es,K,h1.deeds d⟩,h2,h3⟩
theorem Rx(w:AWorld)(d:X1)(n:Nat)(h:dO w n)(hn:n<1000)(h0:0≤w.deeds)(hdw:d.wf)(hdp:d.request.path.length≤1048576):ab prog (inW w) 17 [.ptr 0 0,d.av] (d6 (doW w d).1 (doW w d).2):=by
 unfold doW
 by_cases h3:300≤w.deeds
 ·rw[RJ h3]
  unfold inW d6;refine zJ func17 ntmps17 results17 ?_;simp only[go_sem]
  (refine zW qw zn Yj (z1 ?_)<;>(repeat with_reducible intro hc))
  all_goals try exact zk3
  all_goals(refine zOp Yj ?_;simp(disch:=omega) only[go_sem,aa];exact Xe (r:=noR 6) (rfl) rfl rfl rfl)
 rw[RI h3];have h:=h.deed (w.deeds+1);have hwr:=Mh { w with deeds:=w.deeds+1 } d (h.wr hn) hdw hdp;have hrd:=Mw { w with deeds:=w.deeds+1 } d (h.rd hn) hdw;have hel:=Lz { w with deeds:=w.deeds+1 } (h.el hn);have hcr:=fun i hi ii hii=>Js { w with deeds:=w.deeds+1 } i d.keep hi h.wl (h.server hn hi).1 ii hii
 have hup:=fun i hi ii hii=>Qj { w with deeds:=w.deeds+1 } i hi h.wl (h.server hn hi).1 ii hii
 have k1:(cw w).setD (w.deeds+1)=cw { w with deeds:=w.deeds+1 }:=rfl;have k2:w.done=({ w with deeds:=w.deeds+1 }:AWorld).done:=rfl;generalize ({ w with deeds:=w.deeds+1 }:AWorld)=w' at hwr hrd hel hcr hup k1 k2 ⊢;unfold qD
 by_cases q1:d.kind=1
 ·rw[RJ q1]
  unfold inW d6 avN at hwr;unfold inW d6;generalize dy w' d=R at hwr ⊢;obtain⟨u,r⟩:=R;simp only at hwr ⊢;refine zJ func17 ntmps17 results17 ?_;simp only[go_sem]
  (refine zW qw (z1 (ac [0,1] hwr)) (zx @k1 @k2) (z1 ?_)<;>(repeat with_reducible intro hc))
  all_goals try exact zk3
  refine zOp Yj ?_;simp(disch:=omega) only[go_sem,aa];exact Xn 4 5 (r:=r) rfl rfl rfl (by decide) rfl (by decide)
 rw[RI q1]
 by_cases q2:d.kind=2
 ·rw[RJ q2]
  unfold inW d6 avN at hrd;unfold inW d6;generalize ig w' d=R at hrd ⊢;obtain⟨u,r⟩:=R;simp only at hrd ⊢;refine zJ func17 ntmps17 results17 ?_;simp only[go_sem]
  (refine zW qw (z1 (ac [0,1] hrd)) (zx @k1 @k2) (z1 ?_)<;>(repeat with_reducible intro hc))
  all_goals try exact zk3
  refine zOp Yj ?_;simp(disch:=omega) only[go_sem,aa];exact Xn 4 5 (r:=r) rfl rfl rfl (by decide) rfl (by decide)
 rw[RI q2]
 by_cases q5:d.kind=5
 ·rw[RJ q5]
  unfold inW d6 avN at hel;unfold inW d6;generalize dg w'=R at hel ⊢;obtain⟨u,r⟩:=R;simp only at hel ⊢;refine zJ func17 ntmps17 results17 ?_;simp only[go_sem]
  (refine zW qw (z1 (ac [0,1] hel)) (zx @k1 @k2) (z1 ?_)<;>(repeat with_reducible intro hc))
  all_goals try exact zk3
  refine zOp Yj ?_;simp(disch:=omega) only[go_sem,aa];exact Xn 4 5 (r:=r) rfl rfl rfl (by decide) rfl (by decide)
 rw[RI q5]
 by_cases q3:d.kind=3∨d.kind=4
 case neg=>
  rw[RI q3];unfold inW d6;refine zJ func17 ntmps17 results17 ?_;simp only[go_sem]
  (refine zW qw zn (zx @k1 @k2) (z1 ?_)<;>(repeat with_reducible intro hc))
  all_goals try exact zk3
  all_goals(refine zOp Yj ?_;simp(disch:=omega) only[go_sem,aa];exact Xe (r:=noR 4) (rfl) rfl rfl rfl)
 rw[RJ q3]
 by_cases hs:d.server<0∨3≤d.server
 ·rw[RJ hs]
  unfold inW d6;refine zJ func17 ntmps17 results17 ?_;simp only[go_sem]
  (refine zW qw zn (zx @k1 @k2) (z2 ?_ ?_)<;>(repeat with_reducible intro hc))
  all_goals try exact zk3
  all_goals(refine zOp Yj ?_;simp(disch:=omega) only[go_sem,aa];exact Xe (r:=noR 3) (rfl) rfl rfl rfl)
 rw[RI hs];have hi:d.server.toNat<3:=by omega
 by_cases q4:d.kind=4
 ·rw[RJ q4]
  have hup:=hup d.server.toNat hi d.server (by omega);unfold inW d6 avN at hup;unfold inW d6;generalize upW w' d.server.toNat=R at hup ⊢;obtain⟨u,r⟩:=R;simp only at hup ⊢;refine zJ func17 ntmps17 results17 ?_;simp only[go_sem]
  (refine zW qw (z1 (ac [0,1] hup)) (zx @k1 @k2) (z1 ?_)<;>(repeat with_reducible intro hc))
  all_goals try exact zk3
  refine zOp Yj ?_;simp(disch:=omega) only[go_sem,aa];exact Xn 4 5 (r:=r) rfl rfl rfl (by decide) rfl (by decide)
 rw[RI q4]
 ·have hcr:=hcr d.server.toNat hi d.server (by omega)
  unfold inW d6 avN at hcr;unfold inW d6;generalize iv w' d.server.toNat d.keep=R at hcr ⊢;obtain⟨u,r⟩:=R;simp only at hcr ⊢;refine zJ func17 ntmps17 results17 ?_;simp only[go_sem]
  (refine zW qw (z1 (ac [0,1] hcr)) (zx @k1 @k2) (z1 ?_)<;>(repeat with_reducible intro hc))
  all_goals try exact zk3
  refine zOp Yj ?_;simp(disch:=omega) only[go_sem,aa];exact Xn 4 5 (r:=r) rfl rfl rfl (by decide) rfl (by decide)
theorem QW:Pls [XS [0,1,2,3,8,9,4,5,6,7,10,11] .done,XS [0,1,2,3,8,9,4,5,6,7,10,11] .done]:=pls _
def zS:XV:=⟨false,⟨[]⟩,⟨0,0,[],0⟩,⟨0,[],[]⟩,[]⟩
def zC:X0:=⟨0,0,[]⟩
def nW(a b:Nat):CW:=⟨fun j=>if j<a then(cK (j:Int) []).1 else zS,fun j=>if j<b then⟨(j:Int)+1,0,[]⟩ else zC,-1,fun _=>false,0,0⟩
theorem Rt(a b:Nat):(nW a b).setS a (cK (a:Int) []).1=nW (a+1) b:=by
 have:(fun j=>if j=a then(cK (a:Int) []).1 else(nW a b).s j)=(nW (a+1) b).s:=funext fun j=>by
  show _=if j<a+1 then(cK (j:Int) []).1 else zS
  by_cases e:j=a
  ·subst e;rw[RJ rfl,RJ (by omega)]
  ·rw[RI e]
   show(if j<a then(cK (j:Int) []).1 else zS)=_
   by_cases h:j<a
   ·rw[RJ h,RJ (by omega)]
   ·rw[RI h,RI (by omega)]
 show CW.mk _ _ _ _ _ _=_;rw[this];rfl
theorem QN(a b:Nat):(nW a b).setC b ⟨(b:Int)+1,0,[]⟩=nW a (b+1):=by
 have:(fun j=>if j=b then(⟨(b:Int)+1,0,[]⟩:X0) else(nW a b).c j)=(nW a (b+1)).c:=funext fun j=>by
  show _=if j<b+1 then(⟨(j:Int)+1,0,[]⟩:X0) else zC
  by_cases e:j=b
  ·subst e;rw[RJ rfl,RJ (by omega)]
  ·rw[RI e]
   show(if j<b then(⟨(j:Int)+1,0,[]⟩:X0) else zC)=_
   by_cases h:j<b
   ·rw[RJ h,RJ (by omega)]
   ·rw[RI h,RI (by omega)]
 show CW.mk _ _ _ _ _ _=_;rw[this];rfl
theorem LM(k:Nat):wC (nW 3 16) k=wC (cw je) k:=by unfold wC;rfl
theorem NI{k:Nat}(h:k<16):LT ((k:Int)+1)=(⟨(k:Int)+1,0,[]⟩,0):=by unfold LT;rw[RI (by omega)]
theorem QQ(k:Nat):wC (nW 0 0) k=[.d (.bool false),.d (.sl 3 []),I 0,I 0,.d (.sl 7 []),I 0,I 0,.d (.sl 9 []),.d (.sl 1 []),.d (.sl 3 []),.d (.bool false),.d (.sl 3 []),I 0,I 0,.d (.sl 7 []),I 0,I 0,.d (.sl 9 []),.d (.sl 1 []),.d (.sl 3 []),.d (.bool false),.d (.sl 3 []),I 0,I 0,.d (.sl 7 []),I 0,I 0,.d (.sl 9 []),.d (.sl 1 []),.d (.sl 3 []),
 I 0,I 0,.d (.sl 3 []),I 0,I 0,.d (.sl 3 []),I 0,I 0,.d (.sl 3 []),I 0,I 0,.d (.sl 3 []),I 0,I 0,.d (.sl 3 []),I 0,I 0,.d (.sl 3 []),I 0,I 0,.d (.sl 3 []),I 0,I 0,.d (.sl 3 []),I 0,I 0,.d (.sl 3 []),I 0,I 0,.d (.sl 3 []),I 0,I 0,.d (.sl 3 []),I 0,I 0,.d (.sl 3 []),I 0,I 0,.d (.sl 3 []),I 0,I 0,.d (.sl 3 []),I 0,I 0,.d (.sl 3 []),I 0,I 0,.d (.sl 3 []),
 I (-1),B false,B false,B false,.osl k 7 0 0,I 0]:=rfl
theorem OM:ab prog [] 16 [] (dr (.ptr 0 0) [.cells (wC (cw je) 1),.rows 7 []]):=by
 refine zJ func16 ntmps16 results16 ?_;simp only[go_sem];refine zW qw zn Yj (z1 ?_);refine Xa (ax.trans (Xl 0 82 7 rfl rfl) (XC (cs':=wC (nW 0 0) 1) 0 rfl (by rw[QQ];simp(disch:=omega) only[go_sem,aa];exact iP _))) ?_;simp only[go_sem];refine W9 (ι:=Nat) (fun v=>v≤3) (fun v=>3-v) [1] (fun v=>[(6,I v)]) (fun v=>[.cells (wC (nW v 0) 1),.rows 7 []]) 0 ?_ ?_ ?_
 ·exact RX _
 ·simp only[go_sem];exact zFr [0,1] Yj
 intro v hv;simp only[go_sem]
 by_cases hk:v<3
 ·have hb:=JB (v:Int) ⟨[]⟩ (by simp) (fun f hf=>by cases hf)
  have k1:=Rt v 0;simp only at hb;generalize cK (v:Int) []=q at hb k1;obtain⟨s,e⟩:=q;simp only at hb k1
  (refine zW qw (z2 QW hb) Yj (z1 ?_)<;>(repeat with_reducible intro hc))
  all_goals try exact zk3
  all_goals(refine Zq (v+1) ?_;exact zFr [0,1] @k1)
 obtain rfl:v=3:=by omega
 (refine zW qw zn Yj (z1 ?_)<;>(repeat with_reducible intro hc))
 all_goals try exact zk3
 clear hv hk;refine W9 (ι:=Nat) (fun v=>v≤16) (fun v=>16-v) [1] (fun v=>[(21,I v)]) (fun v=>[.cells (wC (nW 3 v) 1),.rows 7 []]) 0 ?_ ?_ ?_
 ·exact RX _
 ·simp only[go_sem];exact zFr [0,1] Yj
 intro v hv;simp only[go_sem]
 by_cases hk:v<16
 ·have hb:=Pm ((v:Int)+1)
  rw[NI hk] at hb;have k2:=OX (nW 3 v) 1 v hk ((v:Int)+1) 0 [];rw[QN 3 v,TV] at k2
  (refine zW qw (z2 QW hb) Yj (z1 ?_)<;>(repeat with_reducible intro hc))
  all_goals try exact zk3
  all_goals(refine Zq (v+1) ?_;exact zFr [0,1] @k2)
 obtain rfl:v=16:=by omega
 (refine zW qw zn Yj (z1 ?_)<;>(repeat with_reducible intro hc))
 all_goals try exact zk3
 rw[LM];refine zOp Yj ?_;simp(disch:=omega) only[go_sem,aa];exact af.done rfl rfl
def vb(w:AWorld):List X1→AWorld×List X2
 |[]=>(w,[])
 |d::l=>((vb (doW w d).1 l).1,(doW w d).2::(vb (doW w d).1 l).2)
structure Yi (l:List X1) (v:Nat×AWorld×List X2):Prop where
 k:v.1≤l.length
 f:v.2.2++(vb v.2.1 (l.drop v.1)).2=(vb je l).2
 a:dO v.2.1 v.1
 d:v.2.1.deeds≤v.1
 d0:0≤v.2.1.deeds
 n:v.2.2.length=v.1
theorem nh{w:AWorld}{d:X1}:0≤w.deeds→0≤(doW w d).1.deeds∧(doW w d).1.deeds≤w.deeds+1:=by
 intro h0
 by_cases h:w.deeds<300
 ·rw[Il h];omega
 ·rw[MS (by omega)];simp only;omega
theorem Yi.next{l:List X1}{v:Nat×AWorld×List X2}(h:Yi l v)(hk:v.1<l.length)(hl:l.length≤300){u:AWorld}{r:X2}(hR:doW v.2.1 (l.getD v.1 default)=(u,r)):Yi l (v.1+1,u,v.2.2++[r]):=by
 obtain⟨h1,h2,h3,h4,h5,h6⟩:=h;have hd:l.drop v.1=l.getD v.1 default::l.drop (v.1+1):=by rw[S7 hk,RG,RH hk];rfl
 rw[hd,vb,hR] at h2;have ha:=h3.does (by omega) (l.getD v.1 default);have hb:=nh (d:=l.getD v.1 default) h5;rw[hR] at ha hb;simp only at hb;exact⟨hk,by simpa using h2,ha,by simp only;omega,hb.1,by simp only[RL,Sv];omega⟩
theorem Yi.end{l:List X1}{v:Nat×AWorld×List X2}(h:Yi l v)(hk:¬ v.1<l.length):v.2.2=(vb je l).2:=by have h2:=h.f;rw[Ug (by omega),vb,Se] at h2;exact h2
theorem Ee:Pls [XS [0,1,3,4] (.fork 2 (XS [5] (.fork 6 (XS [7,8] .done) 7 (XS [6,8] .done))) 7 (XS [2,5,6,8] .done)),XS [0,1,3,4,7,8] (.forks 2 (XS [5] (.forks 6 (.fork 9 (.fork 10 (XS [11,12,13,14,15,16] .done) 14 (XS [10,11,12,13,15,16] .done)) 14 (XS [9,10,11,12,13,15,16] .done)) 9 (.fork 6 (.fork 10 (XS [11,12,13,14,15,16] .done) 14 (XS [10,11,12,13,15,16] .done)) 14 (XS [6,10,11,12,13,15,16] .done)) 14 (XS [6,9,10,11,12,13,15,16] .done))) 9 (.fork 2 (XS [5] (.fork 6 (.fork 10 (XS [11,12,13,14,15,16] .done) 14 (XS [10,11,12,13,15,16] .done)) 14 (XS [6,10,11,12,13,15,16] .done))) 14 (XS [2,5,6,10,11,12,13,15,16] .done)) 14 (XS [2,5,6,9,10,11,12,13,15,16] .done)),XS [0,1,2,3,4,5,6,7,8] .done,XS [0,1,2,3,4,5,6,7] .done]:=pls _
abbrev fF(w:AWorld)(r:X2):AV→List ABlk→Prop:=dr r.av [.cells (wC (cw w) 2),.dead,.rows 7 (w.done.map ATxn.row)]
theorem Xt{hp:List ABlk}{w:AWorld}{r:X2}{v:CW}{x:AV}(p:Nat)(hv:v=cw w)(h0:hp[0]?=some (.cells (wC v p)))(h1:hp[p]?=some (.rows 7 (w.done.map ATxn.row)))(hp0:p≠0)(hn:cp x)(hc:dM x r.av) :
  af 2 hp x (fF w r):=by
 subst hv;have hl0:0<hp.length:=(RM.1 h0).1;have hlp:p<hp.length:=(RM.1 h1).1;have s1:=Xr 0 82 (np:=2) (nt:=1) (env:=[(0,x)]) h0 (KF (cw w) p) h1 (by simp) hp0;rw[zi] at s1;have hren:=kF (mAt [0,1,hp.length] ((hp.set p ABlk.dead).set 0 (ABlk.cells (wC (cw w) hp.length))++[ABlk.rows 7 (w.done.map ATxn.row)]).length) x hn;refine Xc (v':=x) (hp':=[.cells (wC (cw w) 2),.dead,.rows 7 (w.done.map ATxn.row)]) (ax.trans s1 (ax.frame [0,1,hp.length] rfl (fun i hi=>?_) ?_ (fun k hk=>?_) ?_ ?_)) (af.coe hc (af.same ⟨rfl,rfl⟩))
 ·simp only[RW,R6,Ua] at hi
  simp only[RL,R3,RQ,Sd];omega
 ·simp only[Sj,RW,R6,Ua,not_or,R5,Sr,WM]
  omega
 ·rcases k with _|_|k
  ·rfl
  ·rfl
  ·omega
 ·refine⟨⟨?_,uI (RX _) _ hren.2⟩,Yj⟩
  simp only[cy,S9];exact hren.1.symm
 ·refine⟨.inr ⟨?_,?_⟩,.inl rfl,.inr ⟨?_,Yj⟩,Yj⟩
  ·show(((hp.set p ABlk.dead).set 0 (ABlk.cells (wC (cw w) hp.length))++[ABlk.rows 7 (w.done.map ATxn.row)])[0]?)=some (ABlk.cells (renL _ (wC (cw w) 2)))
   rw[vO,R2 (by simp;omega),TW (by simp;omega)];rfl
  ·exact EH _ _ _ (show 2<3 by decide)
  ·show(((hp.set p ABlk.dead).set 0 (ABlk.cells (wC (cw w) hp.length))++[ABlk.rows 7 (w.done.map ATxn.row)])[hp.length]?)=_
   rw[RT (by simp)];simp[renB]
theorem Xg{hp:List ABlk}{w:AWorld}{r:X2}{v:CW}(hv:v=cw w)(hn:r.notes=[])(h0:hp[0]?=some (.cells (wC v 1)))(h1:hp[1]?=some (.rows 7 (w.done.map ATxn.row))) :
  af 2 hp (avN r (.d (.sc (.slice none 0 0)))) (fF w r):=by
 refine Xt 1 hv h0 h1 (by decide) (by unfold avN;simp[cF,cp]) ?_;unfold avN X2.av;rw[hn];simp(disch:=omega) only[go_sem,aa,TV]
theorem Xy{hp:List ABlk}{w:AWorld}{r:X2}{v:CW}(p:Nat)(hv:v=cw w)(h0:hp[0]?=some (.cells (wC v p)))(h1:hp[p]?=some (.rows 7 (w.done.map ATxn.row)))(hp0:p≠0) :
  af 2 hp (avN r (.d (.sl 3 (r.notes.map XX.row)))) (fF w r):=
 Xt p hv h0 h1 hp0 (by unfold avN;simp[cF,cp]) (iP _)
theorem Mu(w:AWorld)(d:X1)(hw:RdOk w)(hdw:d.wf)(hdp:d.request.path.length≤1048576)(h1:0≤d.client∧d.client<16∧0≤d.server∧d.server<3):ab prog (inW w) 51 [.ptr 0 0,d.av] (fF (ig w d).1 (ig w d).2):=by
 obtain⟨⟨e1,e2,e3⟩,ht,hv,hc16⟩:=hw;obtain⟨kind,client,server,rq,lost,slow,keep,watch⟩:=d;obtain⟨_,hcI,hsI,hrq,_,_,_,_⟩:=hdw;simp only at hcI hsI hrq h1 hdp;obtain⟨k,rfl⟩:∃ k:Nat,client=(k:Int):=⟨client.toNat,by omega⟩;obtain⟨i,rfl⟩:∃ i:Nat,server=(i:Int):=⟨server.toNat,by omega⟩;have hk:k<16:=by omega
 have hi:i<3:=by omega
 have hti:=ht i hi;have hvi:=hv i hi;have hck:=hc16 k hk;have hrd:=@Cj w kind k i rq lost slow keep watch (by omega) _ _ rfl rfl;rw[hrd];clear hrd;have hgt:=ir (w.s i).tree rq.path hti.1 hti.2;have hsc:=F8 (w.c k) (w.s i).tree.zxid (by omega);have hse:=@xx (w.c k) (w.s i).tree.zxid;generalize aw (w.s i).tree rq.path=gq at hgt ⊢;obtain⟨gn,ge⟩:=gq;generalize gv (w.c k) (w.s i).tree.zxid=sq at hsc hse ⊢;obtain⟨c,ce⟩:=sq;simp only at hgt hsc hse ⊢;unfold inW fF;refine zJ func51 ntmps51 results51 ?_;simp only[go_sem];refine zW qs zn Yj (z1 ?_)
 all_goals try exact zk3
 generalize hsv:w.s i=sv at hgt hsc hti hvi ⊢;refine Xb [0,3,4] [(5,.ptr 4 0)] [.cells (wC (cw w) 1),.rows 7 (w.done.map ATxn.row),.cells [I kind,I (k:Int),I (i:Int),I rq.op,I rq.session,S rq.path,S rq.data,I rq.version,I rq.flags,I lost,I slow,I keep,B watch],.cells [I 0,I 0,S [],S [],I 0,I 0,I 0,I 0,I 0,I 0,I 0,.d (.sc (.slice none 0 0))],.cells [B sv.up,.d (.sl 3 (sv.disk.files.map AFile.row)),I sv.peer.id,I sv.peer.epoch,.d (.sl 7 (sv.peer.log.map ATxn.row)),I sv.peer.done,I sv.tree.zxid,.d (.sl 9 (sv.tree.nodes.map XU.row)),.d (.sl 1 (sv.tree.sessions.map aY)),.d (.sl 3 (sv.watches.map AWatch.row))]] ?_ ?_
 ·refine zW qw (z1 Ee) @hsv (z3 ?_ ?_ ?_)
  all_goals try exact zk1
  all_goals exact zFr [0,1,2,3,4] Yj
 simp only[go_sem]
 by_cases hup:sv.up=false
 ·rw[RJ hup]
  refine zW qs zn @hup (z1 (fun hc=>?_))
  all_goals try exact zk3
  all_goals(refine zOp Yj ?_;simp(disch:=omega) only[go_sem,aa];exact Xg (r:=noR 14) (rfl) rfl rfl rfl)
 rw[RI hup];have hup2:sv.up=true:=by simpa using hup
 refine zW qs zn @hup2 (z1 (fun hc=>?_))
 all_goals try exact zk3
 refine Xb [0,3,4,5] [(6,.ptr 5 0),(7,I ce)] [.cells (wC (cw w) 1),.rows 7 (w.done.map ATxn.row),.cells [I kind,I (k:Int),I (i:Int),I rq.op,I rq.session,S rq.path,S rq.data,I rq.version,I rq.flags,I lost,I slow,I keep,B watch],.cells [I 0,I 0,S [],S [],I 0,I 0,I 0,I 0,I 0,I 0,I 0,.d (.sc (.slice none 0 0))],.cells [B true,.d (.sl 3 (sv.disk.files.map AFile.row)),I sv.peer.id,I sv.peer.epoch,.d (.sl 7 (sv.peer.log.map ATxn.row)),I sv.peer.done,I sv.tree.zxid,.d (.sl 9 (sv.tree.nodes.map XU.row)),.d (.sl 1 (sv.tree.sessions.map aY)),.d (.sl 3 (sv.watches.map AWatch.row))],.cells [I c.session,I c.seen,.d (.sl 3 (c.cache.map AEntry.row))]] ?_ ?_
 ·refine zW qw (z2 Ee hsc) @hup2 (zc ?_ (zc ?_ (zc ?_ (zc ?_ (zc ?_ (zc ?_ (zc ?_ (zc ?_ (z4 ?_ ?_ ?_ ?_)))))))))
  all_goals try exact zk1
  all_goals exact zFr [0,1,2,3,4,5] @hup2
 simp only[go_sem]
 by_cases hce:ce=0
 case neg=>
  rw[RJ hce];refine zW qs zn Yj (z1 (fun hc=>?_))
  all_goals try exact zk3
  all_goals(refine zOp Yj ?_;simp(disch:=omega) only[go_sem,aa];exact Xg (r:=noR ce) (rfl) rfl rfl rfl)
 subst hce;rw[RI (fun h=>h rfl)];obtain⟨hcc,hcs⟩:=hse rfl;cases watch
 ·rw[RI (by decide)]
  have k3:=FD e3 hk
  (refine zW qs (z1 hgt) Yj (z4 ?_ ?_ ?_ ?_)<;>(try with_reducible intro(K:ASt→Prop) hK)<;>(repeat with_reducible intro hc))
  all_goals try exact zk3
  refine Xb [0,3,4,5,6,7,10] [] [.cells (wC (cw (w.setC k c)) 1),.rows 7 (w.done.map ATxn.row),.cells [I kind,I (k:Int),I (i:Int),I rq.op,I rq.session,S rq.path,S rq.data,I rq.version,I rq.flags,I lost,I slow,I keep,B false],.cells [I 0,I 0,S [],S [],I 0,I 0,I 0,I 0,I 0,I 0,I 0,.d (.sc (.slice none 0 0))],.cells [B true,.d (.sl 3 (sv.disk.files.map AFile.row)),I sv.peer.id,I sv.peer.epoch,.d (.sl 7 (sv.peer.log.map ATxn.row)),I sv.peer.done,I sv.tree.zxid,.d (.sl 9 (sv.tree.nodes.map XU.row)),.d (.sl 1 (sv.tree.sessions.map aY)),.d (.sl 3 (sv.watches.map AWatch.row))],.cells [I c.session,I c.seen,.d (.sl 3 (c.cache.map AEntry.row))],.cells [S gn.path,S gn.data,I gn.stat.czxid,I gn.stat.mzxid,I gn.stat.pzxid,I gn.stat.version,I gn.stat.cversion,I gn.stat.owner,I gn.stat.kids]] ?_ ?_
  ·refine zW qw (z1 Ee) Yj (z1 ?_)
   all_goals try exact zk1
   all_goals exact zFr [0,1,2,3,4,5,6] @k3
  simp only[go_sem];refine zW qw (z1 Ee) Yj (z1 ?_)
  all_goals try exact zk3
  all_goals(refine zOp Yj ?_;simp(disch:=omega) only[go_sem,aa];exact Xg (r:=⟨ge,sv.tree.zxid,gn.path,gn.data,gn.stat,[]⟩) (rfl) rfl rfl rfl)
 ·rw[RJ rfl]
  have had:=Hk sv.watches ⟨c.session,1,rq.path⟩ (by omega) (by simpa using hdp);generalize jH sv.watches ⟨c.session,1,rq.path⟩=aq at had ⊢;obtain⟨wl,ae⟩:=aq;simp only at had ⊢;have k1:=wo e1 hi;have hkp:=Cf c ⟨rq.path,gn.data,decide (ge=0)⟩ (by rw[hcc];exact hck.1) (by rw[hcc];exact hck.2)
  by_cases hae:ae=0
  case neg=>
   rw[RJ hae]
   (refine zW qs (z1 had) Yj (z4 ?_ ?_ ?_ ?_)<;>(try with_reducible intro(K:ASt→Prop) hK)<;>(repeat with_reducible intro hc))
   all_goals try exact zk3
   all_goals(refine zOp Yj ?_;simp(disch:=omega) only[go_sem,aa];exact Xg (r:=noR ae) (rfl) rfl rfl rfl)
  subst hae;rw[RI (fun h=>h rfl)]
  (refine zW qs (z1 had) Yj (z4 ?_ ?_ ?_ ?_)<;>(try with_reducible intro(K:ASt→Prop) hK)<;>(repeat with_reducible intro hc))
  all_goals try exact zk3
  refine Xb [0,3,4,5,6] [] [.cells (wC (cw (w.setS i { sv with watches:=wl })) 1),.rows 7 (w.done.map ATxn.row),.cells [I kind,I (k:Int),I (i:Int),I rq.op,I rq.session,S rq.path,S rq.data,I rq.version,I rq.flags,I lost,I slow,I keep,B true],.cells [I 0,I 0,S [],S [],I 0,I 0,I 0,I 0,I 0,I 0,I 0,.d (.sc (.slice none 0 0))],.cells [B true,.d (.sl 3 (sv.disk.files.map AFile.row)),I sv.peer.id,I sv.peer.epoch,.d (.sl 7 (sv.peer.log.map ATxn.row)),I sv.peer.done,I sv.tree.zxid,.d (.sl 9 (sv.tree.nodes.map XU.row)),.d (.sl 1 (sv.tree.sessions.map aY)),.d (.sl 3 (sv.watches.map AWatch.row))],.cells [I c.session,I c.seen,.d (.sl 3 (c.cache.map AEntry.row))]] ?_ ?_
  ·refine zW qw (z1 Ee) Yj (z1 ?_)
   all_goals try exact zk1
   all_goals exact zFr [0,1,2,3,4,5] (zx @hsv @k1)
  simp only[go_sem];have k3:=FD (w:=w.setS i { sv with watches:=wl }) e3 hk
  (refine zW qs (z2 hgt hkp) Yj (z2 ?_ ?_)<;>(repeat with_reducible intro hc))
  all_goals try exact zk3
  refine Xb [0,3,4,5,6,7,10] [] [.cells (wC (cw ((w.setS i { sv with watches:=wl }).setC k ⟨c.session,c.seen,fR c.cache ⟨rq.path,gn.data,decide (ge=0)⟩⟩)) 1),.rows 7 (w.done.map ATxn.row),.cells [I kind,I (k:Int),I (i:Int),I rq.op,I rq.session,S rq.path,S rq.data,I rq.version,I rq.flags,I lost,I slow,I keep,B true],.cells [I 0,I 0,S [],S [],I 0,I 0,I 0,I 0,I 0,I 0,I 0,.d (.sc (.slice none 0 0))],.cells [B true,.d (.sl 3 (sv.disk.files.map AFile.row)),I sv.peer.id,I sv.peer.epoch,.d (.sl 7 (sv.peer.log.map ATxn.row)),I sv.peer.done,I sv.tree.zxid,.d (.sl 9 (sv.tree.nodes.map XU.row)),.d (.sl 1 (sv.tree.sessions.map aY)),.d (.sl 3 (sv.watches.map AWatch.row))],.cells [I c.session,I c.seen,.d (.sl 3 ((fR c.cache ⟨rq.path,gn.data,decide (ge=0)⟩).map AEntry.row))],.cells [S gn.path,S gn.data,I gn.stat.czxid,I gn.stat.mzxid,I gn.stat.pzxid,I gn.stat.version,I gn.stat.cversion,I gn.stat.owner,I gn.stat.kids]] ?_ ?_
  ·refine zW qw (z1 Ee) Yj (z1 ?_)
   all_goals try exact zk1
   all_goals exact zFr [0,1,2,3,4,5,6] @k3
  simp only[go_sem];refine zW qw (z1 Ee) Yj (z1 ?_)
  all_goals try exact zk3
  all_goals(refine zOp Yj ?_;simp(disch:=omega) only[go_sem,aa];exact Xg (r:=⟨ge,sv.tree.zxid,gn.path,gn.data,gn.stat,[]⟩) (rfl) rfl rfl rfl)
theorem qUn0:Pls [XS [0,1,2,3,8,9,4,5,6,7,10,11] .done]:=pls _
theorem qUn1:Pls [XS [0,1,2,3,4,5,6,7,8,10,11,9,12,13] .done]:=pls _
theorem vH:∀{a b c d:List AV},gD a b→gD c d→gD (a++c) (b++d)
 |[],[],_,_,_,h=>h
 |_::_,_::_,_,_,h1,h2=>⟨h1.1,vH h1.2 h2⟩
 |[],_::_,_,_,h,_=>h.elim
 |_::_,[],_,_,h,_=>h.elim
theorem PG:ab prog [] 13 [] (dr (.ptr 0 0) [.cells (wC (cw je) 1),.rows 7 []]):=by
 refine zJ func13 ntmps13 results13 ?_;simp only[go_sem];refine zW qw zn Yj (z1 ?_);refine Xa (ax.trans (Xl 0 82 7 rfl rfl) (XC (cs':=wC (nW 0 0) 1) 0 rfl (by rw[QQ];simp(disch:=omega) only[go_sem,aa];exact iP _))) ?_;simp only[go_sem];refine W9 (ι:=Nat) (fun v=>v≤3) (fun v=>3-v) [1] (fun v=>[(6,I v)]) (fun v=>[.cells (wC (nW v 0) 1),.rows 7 []]) 0 ?_ ?_ ?_
 ·exact RX _
 ·simp only[go_sem];exact zFr [0,1] Yj
 intro v hv;simp only[go_sem]
 by_cases hk:v<3
 ·have hb:=tj (v:Int) ⟨[]⟩ (by simp) (fun f hf=>by cases hf)
  have k1:=Rt v 0;simp only at hb;generalize cK (v:Int) []=q at hb k1;obtain⟨s,e⟩:=q;simp only at hb k1
  (refine zW qw (z2 qUn0 hb) Yj (z1 ?_)<;>(repeat with_reducible intro hc))
  all_goals try exact zk3
  all_goals(refine Zq (v+1) ?_;exact zFr [0,1] @k1)
 obtain rfl:v=3:=by omega
 (refine zW qw zn Yj (z1 ?_)<;>(repeat with_reducible intro hc))
 all_goals try exact zk3
 clear hv hk;refine W9 (ι:=Nat) (fun v=>v≤16) (fun v=>16-v) [1] (fun v=>[(21,I v)]) (fun v=>[.cells (wC (nW 3 v) 1),.rows 7 []]) 0 ?_ ?_ ?_
 ·exact RX _
 ·simp only[go_sem];exact zFr [0,1] Yj
 intro v hv;simp only[go_sem]
 by_cases hk:v<16
 ·have k2:=OX (nW 3 v) 1 v hk ((v:Int)+1) 0 []
  rw[QN 3 v,TV] at k2
  (refine zW qw zn Yj (z1 ?_)<;>(repeat with_reducible intro hc))
  all_goals try exact zk3
  refine⟨v+1,by omega,by omega,ax.trans (XC (cs':=wC (nW 3 (v+1)) 1) 0 rfl ?_) ?_⟩
  ·rw[←k2]
   refine vH (vH (iS _) ?_) (iS _);simp(disch:=omega) only[go_sem,aa]
  simp only[go_sem];exact zFr [0,1] Yj
 obtain rfl:v=16:=by omega
 (refine zW qw zn Yj (z1 ?_)<;>(repeat with_reducible intro hc))
 all_goals try exact zk3
 rw[LM];refine zOp Yj ?_;simp(disch:=omega) only[go_sem,aa];exact af.done rfl rfl
theorem Ek(v:CW)(rs:List (List DV))(ns:List XX)(hc:∀ i,i<16→(v.c i).cache.length≤100000∧aF ((v.c i).cache.map AEntry.path))(hl:ns.length*32≤140737488351232) :
  ab prog [.cells (wC v 1),.rows 7 rs] 95 [.ptr 0 0,.d (.sl 3 (ns.map XX.row))] (dr (.tup []) [.cells (wC (v.told ns 16) 1),.rows 7 rs]):=by
 refine zJ func95 ntmps95 results95 ?_;simp only[go_sem];refine zW qw zn Yj (z1 ?_);refine W9 (ι:=Nat) (fun k=>k≤16) (fun k=>16-k) [0,1] (fun k=>[(5,I k)]) (fun k=>[.cells (wC (v.told ns k) 1),.rows 7 rs]) 0 ?_ ?_ ?_
 ·omega
 ·simp only[go_sem,yd];exact zSm Yj
 intro k hk;simp only[go_sem]
 by_cases hk2:k<16
 ·obtain⟨c1,c2⟩:=hc k hk2
  have ht:=D6 (v.c k) ns c1 hl c2
  (refine zW qw (z2 qUn1 ht) @EW (z1 ?_)<;>(repeat with_reducible intro hc))
  refine Zq (k+1) ?_;rw[←xk];exact zFr [0,1] @kw.eq_1
 ·have e:k=16:=by omega
  subst e
  (refine zW qw zn Yj (z1 ?_)<;>(repeat with_reducible intro hc))
  (refine zOp Yj ?_;simp(disch:=omega) only[go_sem,aa];refine Xc ?_ (af.same ⟨rfl,rfl⟩);refine zV [0,1] rfl rfl rfl rfl ?_ ?_<;>simp(disch:=omega) only[go_sem,aa,UC,UD])
theorem qUr0:Pls [XS [0,1,2,3,4,5,6,7,9,10,8,11,12] .done]:=pls _
theorem Kw(w:AWorld)(hw:ElOk w):ab prog (inW w) 50 [.ptr 0 0] (fF (dg w).1 (dg w).2):=by
 obtain⟨⟨e1,e2,e3⟩,hs,hn,hv4,hc16,hd⟩:=hw;unfold dg;rw[←wV e1];unfold inW fF;refine zJ func50 ntmps50 results50 ?_;simp only[go_sem];refine zW qw zn Yj (z1 ?_);refine Xa (Xf 3 4 rfl) ?_;simp only[go_sem];refine W9 (ι:=Nat) (fun k=>k≤3) (fun k=>3-k) [0,2,18] (fun k=>[(19,I k),(3,.osl 3 4 0 (dj w k).length)]) (fun k=>[.cells (wC (cw w) 1),.rows 7 (w.done.map ATxn.row),.cells [I 0,I 0,S [],S [],I 0,I 0,I 0,I 0,I 0,I 0,I 0,.d (.sc (.slice none 0 0))],.rows 4 ((dj w k).map X3.row)]) 0 ?_ ?_ ?_
 ·omega
 ·simp only[go_sem,show dj w 0=[] from rfl];exact zSm Yj
 intro k hk;simp only[go_sem]
 by_cases hk3:k<3
 ·have hpl:=ja w k
  (refine zW qw zn Yj (z2 ?_ ?_)<;>(repeat with_reducible intro hc))
  all_goals(try(exfalso;omega))
  ·refine Zq (k+1) ?_
   rw[d7,RJ hc];exact zFr [0,1,2,6] (zx @List.map_append.{0,0} (zx @List.map_cons.{0,0} (zx @List.map_nil.{0,0} (zx @X3.row.eq_1 (zx @List.length_append.{0} (zx @List.length_cons.{0} @List.length_nil.{0}))))))
  ·refine Zq (k+1) ?_
   rw[d7,RI (by rw[hc];decide)];exact zFr [0,1,2,3] Yj
 have e:k=3:=by omega
 subst e;have hPl:=ja w 3;have hPm:=fun p hp=>@ur w 3 p hp
 have hPg:∀ p,p∈dj w 3→p.log.length≤100000∧∀ x,x∈p.log→x.wf∧x.path.length≤1048576:=fun p hp=>by obtain⟨i,hi,rfl⟩:=hPm p hp;exact⟨hn i hi,fun x hx=>⟨(hs i hi).w.2.2.1.2.2.1.2 x hx,(hs i hi).p x hx⟩⟩
 have hel:=A0 (dj w 3) (by omega) (fun p hp=>by have:=(hPg p hp).1;omega) (fun p hp x hx=>((hPg p hp).2 x hx).1);have hok:=@w7 (dj w 3);generalize dj w 3=P at hPl hPm hPg hel hok ⊢;generalize bS P=q at hel hok ⊢;obtain⟨q1,ep,q3⟩:=q;simp only[jI] at hel hok ⊢
 by_cases hq:q3=0
 case neg=>
  simp only[ne_eq,hq,R5,S9];refine zW qw (z1 hel) Yj (z1 (fun hc hc=>?_))
  all_goals try exact zk1
  (refine zOp Yj ?_;simp(disch:=omega) only[go_sem,aa];exact Xg (r:=noR q3) (rfl) rfl rfl rfl)
 subst hq;obtain⟨b,hb,hbl,hep⟩:=hok rfl;subst hb;simp only[ne_eq,Tp,Tj,Ta];obtain⟨hL1,hL2⟩:=hPg _ (aZ P b hbl);have hrow:=fun z=>X3.rgetD P b z hbl
 generalize P.getD b default=B at hL1 hL2 hrow ⊢;generalize hF:bI B.log ep [0,1,2] w.resign []=F;have hnl:((B.log.map ATxn.row).drop 0).take B.log.length=B.log.map ATxn.row:=by rw[Tw];exact RK (by simp)
 refine zW qw (z1 hel) (zx @hrow @iW) (z1 (fun hc hc=>?_));refine Xa (Xs 9 4 (fun j hj=>⟨by omega,by rcases j with _|_|j<;>first|exact⟨_,rfl,by simp⟩|omega⟩) rfl rfl (by simp)) ?_;simp only[go_sem,hnl];refine Xa (Xf 10 3 rfl) ?_;simp only[go_sem];refine W9 (ι:=Nat×AWorld×List XX) (fun v=>ElInv w B.log ep F v) (fun v=>3-v.1) [0,2,3,6,7,9] (fun v=>[(53,I v.1),(10,.osl 4 3 0 v.2.2.length)]) (fun v=>[.cells (wC (cw v.2.1) 1),.rows 7 (w.done.map ATxn.row),.cells [I 0,I 0,S [],S [],I 0,I 0,I 0,I 0,I 0,I 0,I 0,.d (.sc (.slice none 0 0))],.rows 4 (P.map X3.row),.rows 3 (v.2.2.map XX.row)]) (0,w.resign,[]) ?_ ?_ ?_
 ·exact⟨RX _,hF,⟨e1,rfl,e3⟩,fun i _ _=>rfl,rfl,RP _,rfl⟩
 ·simp only[go_sem];exact zFr [0,1,2,3,5] Yj
 intro v hv;simp only[go_sem];have hvk:=hv.k;have hvn:=hv.n
 by_cases hk4:v.1<3
 ·have hs0:=hv.s v.1 (RP _) hk4
  have hg:=hs v.1 hk4;have hw4:=hv4 v.1 hk4;have hL1':B.log.length≤1048576:=by omega
  have hfo:=yV (w.s v.1) B.log ep hg.w (fun x hx=>(hL2 x hx).1) (fun x hx=>(hL2 x hx).2) hL1' hep;have hfg:=ye (ep:=ep) hg hL2 hL1' hep;have hco:=pi (aG (w.s v.1) B.log ep).1 B.log.length hfg.w hfg.t hfg.p;have hdn:=hv.down hk4;have hst1:=hv.stop1 hk4;have hst2:=hv.stop2 hk4;have hnx:=fun a b c=>hv.next hk4 a b c hw4
  have hcf:=eX (aG (w.s v.1) B.log ep).1 B.log.length;have hff:=(jD (w.s v.1) B.log ep).length_le
  by_cases hu:(w.s v.1).up=false
  ·(refine zW qw zn @hs0 (z2 ?_ ?_)<;>(try with_reducible intro(K:ASt→Prop) hK)<;>(repeat with_reducible intro hc))
   all_goals try exact zk3
   refine⟨(v.1+1,v.2),hdn hu,by simp only;omega,?_⟩;exact zFr [0,1,2,3,4] Yj
  generalize aG (w.s v.1) B.log ep=fo at hfo hfg hco hst1 hst2 hnx hcf hff;obtain⟨f1,f2⟩:=fo;simp only at hfo hfg hco hst1 hst2 hnx hcf hff
  by_cases hf2:f2=0
  case neg=>
   have hF2:=hst1 hu hf2;subst hF2;simp only[ne_eq,hf2,R5,S9]
   (refine zW qw (z1 hfo) @hs0 (z2 ?_ ?_)<;>(repeat with_reducible intro hc))
   all_goals try exact zk3
   (refine zOp @SI ?_;simp(disch:=omega) only[go_sem,aa,SI];exact Xg (r:=noR f2) (rfl) rfl rfl (by rw[hv.d];rfl))
  subst hf2;generalize au f1 B.log.length=co at hco hst2 hnx hcf;obtain⟨c1,cn,ce⟩:=co;simp only at hco hst2 hnx hcf
  by_cases hce:ce=0
  case neg=>
   have hF2:=hst2 hu (fun h=>h rfl) hce;subst hF2;simp only[ne_eq,hce,R5,S9]
   (refine zW qw (z2 hfo hco) @hs0 (z2 ?_ ?_)<;>(repeat with_reducible intro hc))
   all_goals try exact zk3
   (refine zOp @SI ?_;simp(disch:=omega) only[go_sem,aa,SI];exact Xg (r:=noR ce) (rfl) rfl rfl (by rw[hv.d];rfl))
  subst hce
  (refine zW qw (z3 qUr0 hfo hco) @hs0 (z2 ?_ ?_)<;>(repeat with_reducible intro hc))
  all_goals try exact zk3
  refine⟨_,hnx hu (fun h=>h rfl) (fun h=>h rfl),by simp only;omega,?_⟩;have k1:=wo hv.l.sl hk4;have k2:=JI hv.l.fl hk4;exact zFr [0,1,2,3,6] (zx @List.map_append.{0,0} (zx @List.length_append.{0} (zx @k1 @k2)))
 have hF2:=hv.end hk4;subst hF2;simp only[ne_eq,Tp,Tj];have hla:=ref_last_c B.log (by omega);have htl:=Ek ((cw v.2.1).setL B.id) (w.done.map ATxn.row) v.2.2 (fun i hi=>by have:=hc16 i hi;show(v.2.1.cl.getD i default).cache.length≤_∧aF ((v.2.1.cl.getD i default).cache.map _);rw[hv.c];exact this) (by omega);have hnt:((v.2.2.map XX.row).drop 0).take v.2.2.length=v.2.2.map XX.row:=by rw[Tw];exact RK (by simp)
 refine Xa (Xs 10 4 (fun j hj=>⟨by omega,by rcases j with _|_|j<;>first|exact⟨_,rfl,by simp⟩|omega⟩) rfl rfl (by simp)) ?_;simp only[go_sem,hnt];refine zW qw (z2 (ac [0,1] htl) hla) @hrow (z1 (fun hc=>?_))
 all_goals try exact zk1
 refine zOp Yj ?_;simp(disch:=omega) only[go_sem,aa];exact Xy 1 (r:=⟨0,aA B.log,[],[],default,v.2.2⟩) (sW (w:={ v.2.1 with leader:=B.id }) hv.l.cl v.2.2) rfl (by rw[show(dk { v.2.1 with leader:=B.id } v.2.2).done=w.done from hv.d];rfl) (by decide)
theorem tD:Pls [XS [0,1,2,3,4,5,6,7,8,9,10,11,12,13,14,15] .done,XS [0,1,2,3,5,6,10] (.forks 4 (XS [7,8] (.forks 9 (.fork 11 (.fork 12 (XS [13,14,15,16,17,18] .done) 16 (XS [12,13,14,15,17,18] .done)) 16 (XS [11,12,13,14,15,17,18] .done)) 11 (.fork 9 (.fork 12 (XS [13,14,15,16,17,18] .done) 16 (XS [12,13,14,15,17,18] .done)) 16 (XS [9,12,13,14,15,17,18] .done)) 16 (XS [9,11,12,13,14,15,17,18] .done))) 11 (.fork 4 (XS [7,8] (.fork 9 (.fork 12 (XS [13,14,15,16,17,18] .done) 16 (XS [12,13,14,15,17,18] .done)) 16 (XS [9,12,13,14,15,17,18] .done))) 16 (XS [4,7,8,9,12,13,14,15,17,18] .done)) 16 (XS [4,7,8,9,11,12,13,14,15,17,18] .done)),XS [0,1,2,3,4,7,8] (.forks 5 (.fork 6 (.fork 9 (XS [10,11,12,13,14,15] .done) 13 (XS [9,10,11,12,14,15] .done)) 13 (XS [6,9,10,11,12,14,15] .done)) 6 (.fork 5 (.fork 9 (XS [10,11,12,13,14,15] .done) 13 (XS [9,10,11,12,14,15] .done)) 13 (XS [5,9,10,11,12,14,15] .done)) 13 (XS [5,6,9,10,11,12,14,15] .done)),XS [0,1,2,3,4,5,6] .done,XS [0,1,2,3,4,6,7,8,9,10,11,12] (.forks 5 (.fork 13 (XS [14] (.fork 15 (XS [16,17,18,19,20,21,22,23] .done) 20 (XS [15,16,17,18,19,21,22,23] .done))) 20 (XS [13,14,15,16,17,18,19,21,22,23] .done)) 13 (XS [14] (.fork 5 (.fork 15 (XS [16,17,18,19,20,21,22,23] .done) 20 (XS [15,16,17,18,19,21,22,23] .done)) 20 (XS [5,15,16,17,18,19,21,22,23] .done))) 20 (XS [5,13,14,15,16,17,18,19,21,22,23] .done)),XS [0,1,2,3,4,5,6] .done,XS [0,1,2,3,5] (.fork 4 (XS [6,7,8,9,10] .done) 6 (XS [4,7,8,9,10] .done)),XS [0,1,2,3,4,5,6,7,8] .done,XS [0,1,2,3,5,6,10] (.forks 4 (XS [7,8] (.forks 9 (.fork 11 (.fork 12 (XS [13,14,15,16,17,18] .done) 16 (XS [12,13,14,15,17,18] .done)) 16 (XS [11,12,13,14,15,17,18] .done)) 11 (.fork 9 (.fork 12 (XS [13,14,15,16,17,18] .done) 16 (XS [12,13,14,15,17,18] .done)) 16 (XS [9,12,13,14,15,17,18] .done)) 16 (XS [9,11,12,13,14,15,17,18] .done))) 11 (.fork 4 (XS [7,8] (.fork 9 (.fork 12 (XS [13,14,15,16,17,18] .done) 16 (XS [12,13,14,15,17,18] .done)) 16 (XS [9,12,13,14,15,17,18] .done))) 16 (XS [4,7,8,9,12,13,14,15,17,18] .done)) 16 (XS [4,7,8,9,11,12,13,14,15,17,18] .done))]:=pls _
theorem OB(v:CW)(k i:Nat)(h:i<16):∀ z:Int,(wC v k).set (30+i*3+1) (I z)=wC (v.setC i ⟨(v.c i).session,z,(v.c i).cache⟩) k:=by intro z;rcases i with _|_|_|_|_|_|_|_|_|_|_|_|_|_|_|_|i<;>first|rfl|omega
attribute [go_sem] OB
theorem Oy(n:Int)(i:Nat):decide ((n/2^i).tmod 2=0)=!oM n i:=by
 unfold oM;generalize n/2^i=a;have h1:a.tmod 2=0↔a%2=0:=by rw[←Int.dvd_iff_tmod_eq_zero,←Int.dvd_iff_emod_eq_zero]
 rw[Tv,SY,RN,RR,h1];omega
end Go.Proofs.YtjcooccnfkfjhaaGreatDoor
