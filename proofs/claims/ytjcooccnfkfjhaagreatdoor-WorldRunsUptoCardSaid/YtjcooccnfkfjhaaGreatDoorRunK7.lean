/- What the law leans on. No condition. -/
import Derived.Test.YtjcooccnfkfjhaaGreatDoorRunK6
namespace Go.Proofs.YtjcooccnfkfjhaaGreatDoor
set_option maxHeartbeats 32000000
set_option linter.unusedVariables false
set_option linter.unusedSimpArgs false
open Go Go.RowKit
set_option maxRecDepth 100000
def jQ(w:AWorld):List XO→AWorld×List XN
 |[]=>(w,[])
 |d::l=>((jQ (doW w d).1 l).1,(doW w d).2::(jQ (doW w d).1 l).2)
def DN(l:List XO):List XN×Int:=if 300<l.length then([],6) else((jQ gE l).2,0)
structure X4 (l:List XO) (v:Nat×AWorld×List XN):Prop where
 k:v.1≤l.length
 f:v.2.2++(jQ v.2.1 (l.drop v.1)).2=(jQ gE l).2
 a:dH v.2.1 v.1
 d:v.2.1.deeds≤v.1
 d0:0≤v.2.1.deeds
 n:v.2.2.length=v.1
theorem nc{w:AWorld}{d:XO}:0≤w.deeds→0≤(doW w d).1.deeds∧(doW w d).1.deeds≤w.deeds+1:=by
 intro h0
 by_cases h:w.deeds<300
 ·rw[Jl h];omega
 ·rw[Nv (by omega)];simp only;omega
theorem X4.next{l:List XO}{v:Nat×AWorld×List XN}(h:X4 l v)(hk:v.1<l.length)(hl:l.length≤300){u:AWorld}{r:XN}(hR:doW v.2.1 (l.getD v.1 default)=(u,r)):X4 l (v.1+1,u,v.2.2++[r]):=by
 obtain⟨h1,h2,h3,h4,h5,h6⟩:=h;have hd:l.drop v.1=l.getD v.1 default::l.drop (v.1+1):=by rw[SU hk,Ru,Rv hk];rfl
 rw[hd,jQ,hR] at h2;have ha:=h3.does (by omega) (l.getD v.1 default);have hb:=nc (d:=l.getD v.1 default) h5;rw[hR] at ha hb;simp only at hb;exact⟨hk,by simpa using h2,ha,by simp only;omega,hb.1,by simp only[Ry,Sj];omega⟩
theorem X4.end{l:List XO}{v:Nat×AWorld×List XN}(h:X4 l v)(hk:¬ v.1<l.length):v.2.2=(jQ gE l).2:=by have h2:=h.f;rw[T3 (by omega),jQ,R5] at h2;exact h2
theorem HR(l:List XO)(hl:∀ d,d∈l→d.wf∧d.request.path.length≤1048576)(hll:l.length*136≤140737488351232):ab Tryz.prog [] 12 [.d (.sl 13 (l.map XO.row))] (ret (.tup [.d (.sl 12 ((DN l).1.map XN.row)),I (DN l).2])):=by
 unfold DN
 by_cases h3:300<l.length
 ·rw[Rx h3]
  refine zJ Tryz.func12 Tryz.ntmps12 Tryz.results12 ?_;simp only[go_sem]
  (refine zW qw zn X5 (z1 ?_)<;>(repeat with_reducible intro hc))
  all_goals try exact zk3
  all_goals exact zEe X5
 rw[Rw h3];refine zJ Tryz.func12 Tryz.ntmps12 Tryz.results12 ?_;simp only[go_sem]
 (refine zW qw (z1 O2) X5 (z1 ?_)<;>(repeat with_reducible intro hc))
 all_goals try exact zk3
 refine WR (WT 5 12 rfl) ?_;simp only[go_sem];refine WQ (ι:=Nat×AWorld×List XN) (fun v=>X4 l v) (fun v=>l.length-v.1) [4,12,13] (fun v=>[(14,I v.1),(5,.osl 2 12 0 v.2.2.length)]) (fun v=>[.cells (wC (cw v.2.1) 1),.rows 7 (v.2.1.done.map ATxn.row),.rows 12 (v.2.2.map XN.row)]) (0,gE,[]) ?_ ?_ ?_
 ·exact⟨RI _,rfl,dH.start,Su _,Su _,rfl⟩
 ·simp only[go_sem];exact zFr [0,1,2] X5
 intro v hv;simp only[go_sem];have hvk:=hv.k;have hvn:=hv.n
 by_cases hk:v.1<l.length
 ·have hdm:l.getD v.1 default∈l:=by rw[Ru,Rv hk];exact So hk
  have hdo:=Qk v.2.1 (l.getD v.1 default) v.1 hv.a (by omega) hv.d0 (hl _ hdm).1 (hl _ hdm).2;unfold inW d5 avN at hdo;generalize hR:doW v.2.1 (l.getD v.1 default)=R at hdo;obtain⟨u,r⟩:=R;simp only at hdo
  (refine zW qw (z1 (ad [0,1] hdo)) X5 (z1 ?_)<;>(repeat with_reducible intro hc))
  all_goals try exact zk3
  all_goals refine⟨(v.1+1,u,v.2.2++[r]),hv.next hk (by omega) hR,by simp only;omega,?_⟩
  all_goals exact zFr [0,4,7] (zx @List.map_append.{0,0} (zx @List.map_cons.{0,0} (zx @List.map_nil.{0,0} (zx @List.length_append.{0} (zx @List.length_cons.{0} (zx @List.length_nil.{0} @XN.row.eq_1))))))
 ·have he:=hv.end hk
  (refine zW qw zn X5 (z1 ?_)<;>(repeat with_reducible intro hc))
  all_goals try exact zk3
  rw[←he]
  all_goals exact zEe X5
theorem D6:Pls [XE [0,1,3,4] (.fork 2 (XE [5] (.fork 6 (XE [7,8] .done) 7 (XE [6,8] .done))) 7 (XE [2,5,6,8] .done)),XE [0,1,3,4,7,8] (.forks 2 (XE [5] (.forks 6 (.fork 9 (.fork 10 (XE [11,12,13,14,15,16] .done) 14 (XE [10,11,12,13,15,16] .done)) 14 (XE [9,10,11,12,13,15,16] .done)) 9 (.fork 6 (.fork 10 (XE [11,12,13,14,15,16] .done) 14 (XE [10,11,12,13,15,16] .done)) 14 (XE [6,10,11,12,13,15,16] .done)) 14 (XE [6,9,10,11,12,13,15,16] .done))) 9 (.fork 2 (XE [5] (.fork 6 (.fork 10 (XE [11,12,13,14,15,16] .done) 14 (XE [10,11,12,13,15,16] .done)) 14 (XE [6,10,11,12,13,15,16] .done))) 14 (XE [2,5,6,10,11,12,13,15,16] .done)) 14 (XE [2,5,6,9,10,11,12,13,15,16] .done)),XE [0,1,2,3,4,5,6,7,8] .done,XE [0,1,2,3,4,5,6,7] .done]:=pls _
abbrev fC(w:AWorld)(r:XN):AV→List ABlk→Prop:=ew r.av [.cells (wC (cw w) 2),.dead,.rows 7 (w.done.map ATxn.row)]
theorem Xg{hp:List ABlk}{w:AWorld}{r:XN}{v:CW}{x:AV}(p:Nat)(hv:v=cw w)(h0:hp[0]?=some (.cells (wC v p)))(h1:hp[p]?=some (.rows 7 (w.done.map ATxn.row)))(hp0:p≠0)(hn:cA x)(hc:dW x r.av) :
  af 2 hp x (fC w r):=by
 subst hv;have hl0:0<hp.length:=(RA.1 h0).1;have hlp:p<hp.length:=(RA.1 h1).1;have s1:=Xe 0 82 (np:=2) (nt:=1) (env:=[(0,x)]) h0 (IB (cw w) p) h1 (by simp) hp0;rw[zu] at s1;have hren:=nO (mAt [0,1,hp.length] ((hp.set p ABlk.dead).set 0 (ABlk.cells (wC (cw w) hp.length))++[ABlk.rows 7 (w.done.map ATxn.row)]).length) x hn;refine WV (v':=x) (hp':=[.cells (wC (cw w) 2),.dead,.rows 7 (w.done.map ATxn.row)]) (ay.trans s1 (ay.frame [0,1,hp.length] rfl (fun i hi=>?_) ?_ (fun k hk=>?_) ?_ ?_)) (af.coe hc (af.same ⟨rfl,rfl⟩))
 ·simp only[RP,RV,UD] at hi
  simp only[Ry,RQ,RD,R1];omega
 ·simp only[R7,RP,RV,UD,not_or,RS,Se,Wx]
  omega
 ·rcases k with _|_|k
  ·rfl
  ·rfl
  ·omega
 ·refine⟨⟨?_,y9 (RI _) _ hren.2⟩,X5⟩
  simp only[cz,SY];exact hren.1.symm
 ·refine⟨.inr ⟨?_,?_⟩,.inl rfl,.inr ⟨?_,X5⟩,X5⟩
  ·show(((hp.set p ABlk.dead).set 0 (ABlk.cells (wC (cw w) hp.length))++[ABlk.rows 7 (w.done.map ATxn.row)])[0]?)=some (ABlk.cells (renL _ (wC (cw w) 2)))
   rw[yl,RO (by simp;omega),TG (by simp;omega)];rfl
  ·exact Ie _ _ _ (show 2<3 by decide)
  ·show(((hp.set p ABlk.dead).set 0 (ABlk.cells (wC (cw w) hp.length))++[ABlk.rows 7 (w.done.map ATxn.row)])[hp.length]?)=_
   rw[RG (by simp)];simp[renB]
theorem WX{hp:List ABlk}{w:AWorld}{r:XN}{v:CW}(hv:v=cw w)(hn:r.notes=[])(h0:hp[0]?=some (.cells (wC v 1)))(h1:hp[1]?=some (.rows 7 (w.done.map ATxn.row))) :
  af 2 hp (avN r (.d (.sc (.slice none 0 0)))) (fC w r):=by
 refine Xg 1 hv h0 h1 (by decide) (by unfold avN;simp[cF,cA]) ?_;unfold avN XN.av;rw[hn];simp(disch:=omega) only[go_sem,aa,TP]
theorem Xk{hp:List ABlk}{w:AWorld}{r:XN}{v:CW}(p:Nat)(hv:v=cw w)(h0:hp[0]?=some (.cells (wC v p)))(h1:hp[p]?=some (.rows 7 (w.done.map ATxn.row)))(hp0:p≠0) :
  af 2 hp (avN r (.d (.sl 3 (r.notes.map XJ.row)))) (fC w r):=
 Xg p hv h0 h1 hp0 (by unfold avN;simp[cF,cA]) (iT _)
theorem Mr(w:AWorld)(d:XO)(hw:RdOk w)(hdw:d.wf)(hdp:d.request.path.length≤1048576)(h1:0≤d.client∧d.client<16∧0≤d.server∧d.server<3):ab Tryz.prog (inW w) 51 [.ptr 0 0,d.av] (fC (ib w d).1 (ib w d).2):=by
 obtain⟨⟨e1,e2,e3⟩,ht,hv,hc16⟩:=hw;obtain⟨kind,client,server,rq,lost,slow,keep,watch⟩:=d;obtain⟨_,hcI,hsI,hrq,_,_,_,_⟩:=hdw;simp only at hcI hsI hrq h1 hdp;obtain⟨k,rfl⟩:∃ k:Nat,client=(k:Int):=⟨client.toNat,by omega⟩;obtain⟨i,rfl⟩:∃ i:Nat,server=(i:Int):=⟨server.toNat,by omega⟩;have hk:k<16:=by omega
 have hi:i<3:=by omega
 have hti:=ht i hi;have hvi:=hv i hi;have hck:=hc16 k hk;have hrd:=@Ao w kind k i rq lost slow keep watch (by omega) _ _ rfl rfl;rw[hrd];clear hrd;have hgt:=iq (w.s i).tree rq.path hti.1 hti.2;have hsc:=G6 (w.c k) (w.s i).tree.zxid (by omega);have hse:=@wX (w.c k) (w.s i).tree.zxid;generalize aw (w.s i).tree rq.path=gq at hgt ⊢;obtain⟨gn,ge⟩:=gq;generalize gw (w.c k) (w.s i).tree.zxid=sq at hsc hse ⊢;obtain⟨c,ce⟩:=sq;simp only at hgt hsc hse ⊢;unfold inW fC;refine zJ Tryz.func51 Tryz.ntmps51 Tryz.results51 ?_;simp only[go_sem];refine zW qs zn X5 (z1 ?_)
 all_goals try exact zk3
 generalize hsv:w.s i=sv at hgt hsc hti hvi ⊢;refine WS [0,3,4] [(5,.ptr 4 0)] [.cells (wC (cw w) 1),.rows 7 (w.done.map ATxn.row),.cells [I kind,I (k:Int),I (i:Int),I rq.op,I rq.session,S rq.path,S rq.data,I rq.version,I rq.flags,I lost,I slow,I keep,B watch],.cells [I 0,I 0,S [],S [],I 0,I 0,I 0,I 0,I 0,I 0,I 0,.d (.sc (.slice none 0 0))],.cells [B sv.up,.d (.sl 3 (sv.disk.files.map AFile.row)),I sv.peer.id,I sv.peer.epoch,.d (.sl 7 (sv.peer.log.map ATxn.row)),I sv.peer.done,I sv.tree.zxid,.d (.sl 9 (sv.tree.nodes.map XG.row)),.d (.sl 1 (sv.tree.sessions.map a8)),.d (.sl 3 (sv.watches.map AWatch.row))]] ?_ ?_
 ·refine zW qw (z1 D6) @hsv (z3 ?_ ?_ ?_)
  all_goals try exact zk1
  all_goals exact zFr [0,1,2,3,4] X5
 simp only[go_sem]
 by_cases hup:sv.up=false
 ·rw[Rx hup]
  (refine zW qs zn @hup (z1 ?_)<;>(repeat with_reducible intro hc))
  all_goals try exact zk3
  all_goals(refine zOp X5 ?_;simp(disch:=omega) only[go_sem,aa];exact WX (r:=noR 14) (rfl) rfl rfl rfl)
 rw[Rw hup];have hup2:sv.up=true:=by simpa using hup
 (refine zW qs zn @hup2 (z1 ?_)<;>(repeat with_reducible intro hc))
 all_goals try exact zk3
 refine WS [0,3,4,5] [(6,.ptr 5 0),(7,I ce)] [.cells (wC (cw w) 1),.rows 7 (w.done.map ATxn.row),.cells [I kind,I (k:Int),I (i:Int),I rq.op,I rq.session,S rq.path,S rq.data,I rq.version,I rq.flags,I lost,I slow,I keep,B watch],.cells [I 0,I 0,S [],S [],I 0,I 0,I 0,I 0,I 0,I 0,I 0,.d (.sc (.slice none 0 0))],.cells [B true,.d (.sl 3 (sv.disk.files.map AFile.row)),I sv.peer.id,I sv.peer.epoch,.d (.sl 7 (sv.peer.log.map ATxn.row)),I sv.peer.done,I sv.tree.zxid,.d (.sl 9 (sv.tree.nodes.map XG.row)),.d (.sl 1 (sv.tree.sessions.map a8)),.d (.sl 3 (sv.watches.map AWatch.row))],.cells [I c.session,I c.seen,.d (.sl 3 (c.cache.map AEntry.row))]] ?_ ?_
 ·refine zW qw (z2 D6 hsc) @hup2 (zc ?_ (zc ?_ (zc ?_ (zc ?_ (zc ?_ (zc ?_ (zc ?_ (zc ?_ (z4 ?_ ?_ ?_ ?_)))))))))
  all_goals try exact zk1
  all_goals exact zFr [0,1,2,3,4,5] @hup2
 simp only[go_sem]
 by_cases hce:ce=0
 case neg=>
  rw[Rx hce]
  (refine zW qs zn X5 (z1 ?_)<;>(repeat with_reducible intro hc))
  all_goals try exact zk3
  all_goals(refine zOp X5 ?_;simp(disch:=omega) only[go_sem,aa];exact WX (r:=noR ce) (rfl) rfl rfl rfl)
 subst hce;rw[Rw (fun h=>h rfl)];obtain⟨hcc,hcs⟩:=hse rfl;cases watch
 ·rw[Rw (by decide)]
  have k3:=GQ e3 hk
  (refine zW qs (z1 hgt) X5 (z4 ?_ ?_ ?_ ?_)<;>(try with_reducible intro(K:ASt→Prop) hK)<;>(repeat with_reducible intro hc))
  all_goals try exact zk3
  refine WS [0,3,4,5,6,7,10] [] [.cells (wC (cw (w.setC k c)) 1),.rows 7 (w.done.map ATxn.row),.cells [I kind,I (k:Int),I (i:Int),I rq.op,I rq.session,S rq.path,S rq.data,I rq.version,I rq.flags,I lost,I slow,I keep,B false],.cells [I 0,I 0,S [],S [],I 0,I 0,I 0,I 0,I 0,I 0,I 0,.d (.sc (.slice none 0 0))],.cells [B true,.d (.sl 3 (sv.disk.files.map AFile.row)),I sv.peer.id,I sv.peer.epoch,.d (.sl 7 (sv.peer.log.map ATxn.row)),I sv.peer.done,I sv.tree.zxid,.d (.sl 9 (sv.tree.nodes.map XG.row)),.d (.sl 1 (sv.tree.sessions.map a8)),.d (.sl 3 (sv.watches.map AWatch.row))],.cells [I c.session,I c.seen,.d (.sl 3 (c.cache.map AEntry.row))],.cells [S gn.path,S gn.data,I gn.stat.czxid,I gn.stat.mzxid,I gn.stat.pzxid,I gn.stat.version,I gn.stat.cversion,I gn.stat.owner,I gn.stat.kids]] ?_ ?_
  ·refine zW qw (z1 D6) X5 (z1 ?_)
   all_goals try exact zk1
   all_goals exact zFr [0,1,2,3,4,5,6] @k3
  simp only[go_sem];refine zW qw (z1 D6) X5 (z1 ?_)
  all_goals try exact zk3
  all_goals(refine zOp X5 ?_;simp(disch:=omega) only[go_sem,aa];exact WX (r:=⟨ge,sv.tree.zxid,gn.path,gn.data,gn.stat,[]⟩) (rfl) rfl rfl rfl)
 ·rw[Rx rfl]
  have had:=FU sv.watches ⟨c.session,1,rq.path⟩ (by omega) (by simpa using hdp);generalize jE sv.watches ⟨c.session,1,rq.path⟩=aq at had ⊢;obtain⟨wl,ae⟩:=aq;simp only at had ⊢;have k1:=vU e1 hi;have hkp:=AH c ⟨rq.path,gn.data,decide (ge=0)⟩ (by rw[hcc];exact hck.1) (by rw[hcc];exact hck.2)
  by_cases hae:ae=0
  case neg=>
   rw[Rx hae]
   (refine zW qs (z1 had) X5 (z4 ?_ ?_ ?_ ?_)<;>(try with_reducible intro(K:ASt→Prop) hK)<;>(repeat with_reducible intro hc))
   all_goals try exact zk3
   all_goals(refine zOp X5 ?_;simp(disch:=omega) only[go_sem,aa];exact WX (r:=noR ae) (rfl) rfl rfl rfl)
  subst hae;rw[Rw (fun h=>h rfl)]
  (refine zW qs (z1 had) X5 (z4 ?_ ?_ ?_ ?_)<;>(try with_reducible intro(K:ASt→Prop) hK)<;>(repeat with_reducible intro hc))
  all_goals try exact zk3
  refine WS [0,3,4,5,6] [] [.cells (wC (cw (w.setS i { sv with watches:=wl })) 1),.rows 7 (w.done.map ATxn.row),.cells [I kind,I (k:Int),I (i:Int),I rq.op,I rq.session,S rq.path,S rq.data,I rq.version,I rq.flags,I lost,I slow,I keep,B true],.cells [I 0,I 0,S [],S [],I 0,I 0,I 0,I 0,I 0,I 0,I 0,.d (.sc (.slice none 0 0))],.cells [B true,.d (.sl 3 (sv.disk.files.map AFile.row)),I sv.peer.id,I sv.peer.epoch,.d (.sl 7 (sv.peer.log.map ATxn.row)),I sv.peer.done,I sv.tree.zxid,.d (.sl 9 (sv.tree.nodes.map XG.row)),.d (.sl 1 (sv.tree.sessions.map a8)),.d (.sl 3 (sv.watches.map AWatch.row))],.cells [I c.session,I c.seen,.d (.sl 3 (c.cache.map AEntry.row))]] ?_ ?_
  ·refine zW qw (z1 D6) X5 (z1 ?_)
   all_goals try exact zk1
   all_goals exact zFr [0,1,2,3,4,5] (zx @hsv @k1)
  simp only[go_sem];have k3:=GQ (w:=w.setS i { sv with watches:=wl }) e3 hk
  (refine zW qs (z2 hgt hkp) X5 (z2 ?_ ?_)<;>(repeat with_reducible intro hc))
  all_goals try exact zk3
  refine WS [0,3,4,5,6,7,10] [] [.cells (wC (cw ((w.setS i { sv with watches:=wl }).setC k ⟨c.session,c.seen,fO c.cache ⟨rq.path,gn.data,decide (ge=0)⟩⟩)) 1),.rows 7 (w.done.map ATxn.row),.cells [I kind,I (k:Int),I (i:Int),I rq.op,I rq.session,S rq.path,S rq.data,I rq.version,I rq.flags,I lost,I slow,I keep,B true],.cells [I 0,I 0,S [],S [],I 0,I 0,I 0,I 0,I 0,I 0,I 0,.d (.sc (.slice none 0 0))],.cells [B true,.d (.sl 3 (sv.disk.files.map AFile.row)),I sv.peer.id,I sv.peer.epoch,.d (.sl 7 (sv.peer.log.map ATxn.row)),I sv.peer.done,I sv.tree.zxid,.d (.sl 9 (sv.tree.nodes.map XG.row)),.d (.sl 1 (sv.tree.sessions.map a8)),.d (.sl 3 (sv.watches.map AWatch.row))],.cells [I c.session,I c.seen,.d (.sl 3 ((fO c.cache ⟨rq.path,gn.data,decide (ge=0)⟩).map AEntry.row))],.cells [S gn.path,S gn.data,I gn.stat.czxid,I gn.stat.mzxid,I gn.stat.pzxid,I gn.stat.version,I gn.stat.cversion,I gn.stat.owner,I gn.stat.kids]] ?_ ?_
  ·refine zW qw (z1 D6) X5 (z1 ?_)
   all_goals try exact zk1
   all_goals exact zFr [0,1,2,3,4,5,6] @k3
  simp only[go_sem];refine zW qw (z1 D6) X5 (z1 ?_)
  all_goals try exact zk3
  all_goals(refine zOp X5 ?_;simp(disch:=omega) only[go_sem,aa];exact WX (r:=⟨ge,sv.tree.zxid,gn.path,gn.data,gn.stat,[]⟩) (rfl) rfl rfl rfl)
theorem qUn0:Pls [XE [0,1,2,3,8,9,4,5,6,7,10,11] .done]:=pls _
theorem qUn1:Pls [XE [0,1,2,3,4,5,6,7,8,10,11,9,12,13] .done]:=pls _
theorem uN:∀{a b c d:List AV},gD a b→gD c d→gD (a++c) (b++d)
 |[],[],_,_,_,h=>h
 |_::_,_::_,_,_,h1,h2=>⟨h1.1,uN h1.2 h2⟩
 |[],_::_,_,_,h,_=>h.elim
 |_::_,[],_,_,h,_=>h.elim
theorem Px:ab Tryz.prog [] 13 [] (ew (.ptr 0 0) [.cells (wC (cw gE) 1),.rows 7 []]):=by
 refine zJ Tryz.func13 Tryz.ntmps13 Tryz.results13 ?_;simp only[go_sem];refine zW qw zn X5 (z1 ?_);refine WR (ay.trans (W8 0 82 7 rfl rfl) (Xo (cs':=wC (nW 0 0) 1) 0 rfl (by rw[P1];simp(disch:=omega) only[go_sem,aa];exact iT _))) ?_;simp only[go_sem];refine WQ (ι:=Nat) (fun v=>v≤3) (fun v=>3-v) [1] (fun v=>[(6,I v)]) (fun v=>[.cells (wC (nW v 0) 1),.rows 7 []]) 0 ?_ ?_ ?_
 ·exact RI _
 ·simp only[go_sem];exact zFr [0,1] X5
 intro v hv;simp only[go_sem]
 by_cases hk:v<3
 ·have hb:=vA (v:Int) ⟨[]⟩ (by simp) (fun f hf=>by cases hf)
  have k1:=P9 v 0;simp only at hb;generalize cK (v:Int) []=q at hb k1;obtain⟨s,e⟩:=q;simp only at hb k1
  (refine zW qw (z2 qUn0 hb) X5 (z1 ?_)<;>(repeat with_reducible intro hc))
  all_goals try exact zk3
  all_goals(refine⟨v+1,by omega,by omega,?_⟩;exact zFr [0,1] @k1)
 obtain rfl:v=3:=by omega
 (refine zW qw zn X5 (z1 ?_)<;>(repeat with_reducible intro hc))
 all_goals try exact zk3
 clear hv hk;refine WQ (ι:=Nat) (fun v=>v≤16) (fun v=>16-v) [1] (fun v=>[(21,I v)]) (fun v=>[.cells (wC (nW 3 v) 1),.rows 7 []]) 0 ?_ ?_ ?_
 ·exact RI _
 ·simp only[go_sem];exact zFr [0,1] X5
 intro v hv;simp only[go_sem]
 by_cases hk:v<16
 ·have k2:=Po (nW 3 v) 1 v hk ((v:Int)+1) 0 []
  rw[P0 3 v,TP] at k2
  (refine zW qw zn X5 (z1 ?_)<;>(repeat with_reducible intro hc))
  all_goals try exact zk3
  refine⟨v+1,by omega,by omega,ay.trans (Xo (cs':=wC (nW 3 (v+1)) 1) 0 rfl ?_) ?_⟩
  ·rw[←k2]
   refine uN (uN (iL _) ?_) (iL _);simp(disch:=omega) only[go_sem,aa]
  simp only[go_sem];exact zFr [0,1] X5
 obtain rfl:v=16:=by omega
 (refine zW qw zn X5 (z1 ?_)<;>(repeat with_reducible intro hc))
 all_goals try exact zk3
 rw[Is];refine zOp X5 ?_;simp(disch:=omega) only[go_sem,aa];exact af.done rfl rfl
theorem E2(v:CW)(rs:List (List DV))(ns:List XJ)(hc:∀ i,i<16→(v.c i).cache.length≤100000∧aE ((v.c i).cache.map AEntry.path))(hl:ns.length*32≤140737488351232) :
  ab Tryz.prog [.cells (wC v 1),.rows 7 rs] 95 [.ptr 0 0,.d (.sl 3 (ns.map XJ.row))] (ew (.tup []) [.cells (wC (v.told ns 16) 1),.rows 7 rs]):=by
 refine zJ Tryz.func95 Tryz.ntmps95 Tryz.results95 ?_;simp only[go_sem];refine zW qw zn X5 (z1 ?_);refine WQ (ι:=Nat) (fun k=>k≤16) (fun k=>16-k) [0,1] (fun k=>[(5,I k)]) (fun k=>[.cells (wC (v.told ns k) 1),.rows 7 rs]) 0 ?_ ?_ ?_
 ·omega
 ·simp only[go_sem,wx];exact zSm X5
 intro k hk;simp only[go_sem]
 by_cases hk2:k<16
 ·obtain⟨c1,c2⟩:=hc k hk2
  have ht:=CC (v.c k) ns c1 hl c2
  (refine zW qw (z2 qUn1 ht) @E7 (z1 ?_)<;>(repeat with_reducible intro hc))
  refine⟨k+1,by omega,by omega,?_⟩;rw[←xv];exact zFr [0,1] @kz.eq_1
 ·have e:k=16:=by omega
  subst e
  (refine zW qw zn X5 (z1 ?_)<;>(repeat with_reducible intro hc))
  (refine zOp X5 ?_;simp(disch:=omega) only[go_sem,aa];refine WV ?_ (af.same ⟨rfl,rfl⟩);refine zV [0,1] rfl rfl rfl rfl ?_ ?_<;>simp(disch:=omega) only[go_sem,aa,UL,UM])
theorem qUr0:Pls [XE [0,1,2,3,4,5,6,7,9,10,8,11,12] .done]:=pls _
theorem HK(w:AWorld)(hw:ElOk w):ab Tryz.prog (inW w) 50 [.ptr 0 0] (fC (dj w).1 (dj w).2):=by
 obtain⟨⟨e1,e2,e3⟩,hs,hn,hv4,hc16,hd⟩:=hw;unfold dj;rw[←wW e1];unfold inW fC;refine zJ Tryz.func50 Tryz.ntmps50 Tryz.results50 ?_;simp only[go_sem];refine zW qw zn X5 (z1 ?_);refine WR (WT 3 4 rfl) ?_;simp only[go_sem];refine WQ (ι:=Nat) (fun k=>k≤3) (fun k=>3-k) [0,2,18] (fun k=>[(19,I k),(3,.osl 3 4 0 (dn w k).length)]) (fun k=>[.cells (wC (cw w) 1),.rows 7 (w.done.map ATxn.row),.cells [I 0,I 0,S [],S [],I 0,I 0,I 0,I 0,I 0,I 0,I 0,.d (.sc (.slice none 0 0))],.rows 4 ((dn w k).map XP.row)]) 0 ?_ ?_ ?_
 ·omega
 ·simp only[go_sem,show dn w 0=[] from rfl];exact zSm X5
 intro k hk;simp only[go_sem]
 by_cases hk3:k<3
 ·have hpl:=jy w k
  (refine zW qw zn X5 (z2 ?_ ?_)<;>(repeat with_reducible intro hc))
  all_goals(try(exfalso;omega))
  ·refine⟨k+1,by omega,by omega,?_⟩
   rw[d6,Rx hc];exact zFr [0,1,2,6] (zx @List.map_append.{0,0} (zx @List.map_cons.{0,0} (zx @List.map_nil.{0,0} (zx @XP.row.eq_1 (zx @List.length_append.{0} (zx @List.length_cons.{0} @List.length_nil.{0}))))))
  ·refine⟨k+1,by omega,by omega,?_⟩
   rw[d6,Rw (by rw[hc];decide)];exact zFr [0,1,2,3] X5
 have e:k=3:=by omega
 subst e;have hPl:=jy w 3;have hPm:=fun p hp=>@tP w 3 p hp
 have hPg:∀ p,p∈dn w 3→p.log.length≤100000∧∀ x,x∈p.log→x.wf∧x.path.length≤1048576:=fun p hp=>by obtain⟨i,hi,rfl⟩:=hPm p hp;exact⟨hn i hi,fun x hx=>⟨(hs i hi).w.2.2.1.2.2.1.2 x hx,(hs i hi).p x hx⟩⟩
 have hel:=BU (dn w 3) (by omega) (fun p hp=>by have:=(hPg p hp).1;omega) (fun p hp x hx=>((hPg p hp).2 x hx).1);have hok:=@xh (dn w 3);generalize dn w 3=P at hPl hPm hPg hel hok ⊢;generalize bQ P=q at hel hok ⊢;obtain⟨q1,ep,q3⟩:=q;simp only[jS] at hel hok ⊢
 by_cases hq:q3=0
 case neg=>
  simp only[ne_eq,hq,RS,SY]
  (refine zW qw (z1 hel) X5 (z1 ?_)<;>(repeat with_reducible intro hc))
  all_goals try exact zk1
  (refine zOp X5 ?_;simp(disch:=omega) only[go_sem,aa];exact WX (r:=noR q3) (rfl) rfl rfl rfl)
 subst hq;obtain⟨b,hb,hbl,hep⟩:=hok rfl;subst hb;simp only[ne_eq,Td,S8,SW];obtain⟨hL1,hL2⟩:=hPg _ (aZ P b hbl);have hrow:=fun z=>XP.rgetD P b z hbl
 generalize P.getD b default=B at hL1 hL2 hrow ⊢;generalize hF:bH B.log ep [0,1,2] w.resign []=F;have hnl:((B.log.map ATxn.row).drop 0).take B.log.length=B.log.map ATxn.row:=by rw[Tj];exact Rz (by simp)
 (refine zW qw (z1 hel) (zx @hrow @iM) (z1 ?_)<;>(repeat with_reducible intro hc))
 refine WR (Xf 9 4 (fun j hj=>⟨by omega,by rcases j with _|_|j<;>first|exact⟨_,rfl,by simp⟩|omega⟩) rfl rfl (by simp)) ?_;simp only[go_sem,hnl];refine WR (WT 10 3 rfl) ?_;simp only[go_sem];refine WQ (ι:=Nat×AWorld×List XJ) (fun v=>ElInv w B.log ep F v) (fun v=>3-v.1) [0,2,3,6,7,9] (fun v=>[(53,I v.1),(10,.osl 4 3 0 v.2.2.length)]) (fun v=>[.cells (wC (cw v.2.1) 1),.rows 7 (w.done.map ATxn.row),.cells [I 0,I 0,S [],S [],I 0,I 0,I 0,I 0,I 0,I 0,I 0,.d (.sc (.slice none 0 0))],.rows 4 (P.map XP.row),.rows 3 (v.2.2.map XJ.row)]) (0,w.resign,[]) ?_ ?_ ?_
 ·exact⟨RI _,hF,⟨e1,rfl,e3⟩,fun i _ _=>rfl,rfl,RE _,rfl⟩
 ·simp only[go_sem];exact zFr [0,1,2,3,5] X5
 intro v hv;simp only[go_sem];have hvk:=hv.k;have hvn:=hv.n
 by_cases hk4:v.1<3
 ·have hs0:=hv.s v.1 (RE _) hk4
  have hg:=hs v.1 hk4;have hw4:=hv4 v.1 hk4;have hL1':B.log.length≤1048576:=by omega
  have hfo:=yB (w.s v.1) B.log ep hg.w (fun x hx=>(hL2 x hx).1) (fun x hx=>(hL2 x hx).2) hL1' hep;have hfg:=xb (ep:=ep) hg hL2 hL1' hep;have hco:=p6 (aG (w.s v.1) B.log ep).1 B.log.length hfg.w hfg.t hfg.p;have hdn:=hv.down hk4;have hst1:=hv.stop1 hk4;have hst2:=hv.stop2 hk4;have hnx:=fun a b c=>hv.next hk4 a b c hw4
  have hcf:=fb (aG (w.s v.1) B.log ep).1 B.log.length;have hff:=(jA (w.s v.1) B.log ep).length_le
  by_cases hu:(w.s v.1).up=false
  ·(refine zW qw zn @hs0 (z2 ?_ ?_)<;>(try with_reducible intro(K:ASt→Prop) hK)<;>(repeat with_reducible intro hc))
   all_goals try exact zk3
   refine⟨(v.1+1,v.2),hdn hu,by simp only;omega,?_⟩;exact zFr [0,1,2,3,4] X5
  generalize aG (w.s v.1) B.log ep=fo at hfo hfg hco hst1 hst2 hnx hcf hff;obtain⟨f1,f2⟩:=fo;simp only at hfo hfg hco hst1 hst2 hnx hcf hff
  by_cases hf2:f2=0
  case neg=>
   have hF2:=hst1 hu hf2;subst hF2;simp only[ne_eq,hf2,RS,SY]
   (refine zW qw (z1 hfo) @hs0 (z2 ?_ ?_)<;>(repeat with_reducible intro hc))
   all_goals try exact zk3
   (refine zOp @SH ?_;simp(disch:=omega) only[go_sem,aa,SH];exact WX (r:=noR f2) (rfl) rfl rfl (by rw[hv.d];rfl))
  subst hf2;generalize au f1 B.log.length=co at hco hst2 hnx hcf;obtain⟨c1,cn,ce⟩:=co;simp only at hco hst2 hnx hcf
  by_cases hce:ce=0
  case neg=>
   have hF2:=hst2 hu (fun h=>h rfl) hce;subst hF2;simp only[ne_eq,hce,RS,SY]
   (refine zW qw (z2 hfo hco) @hs0 (z2 ?_ ?_)<;>(repeat with_reducible intro hc))
   all_goals try exact zk3
   (refine zOp @SH ?_;simp(disch:=omega) only[go_sem,aa,SH];exact WX (r:=noR ce) (rfl) rfl rfl (by rw[hv.d];rfl))
  subst hce
  (refine zW qw (z3 qUr0 hfo hco) @hs0 (z2 ?_ ?_)<;>(repeat with_reducible intro hc))
  all_goals try exact zk3
  refine⟨_,hnx hu (fun h=>h rfl) (fun h=>h rfl),by simp only;omega,?_⟩;have k1:=vU hv.l.sl hk4;have k2:=KH hv.l.fl hk4;exact zFr [0,1,2,3,6] (zx @List.map_append.{0,0} (zx @List.length_append.{0} (zx @k1 @k2)))
 have hF2:=hv.end hk4;subst hF2;simp only[ne_eq,Td,S8];have hla:=ref_last_c B.log (by omega);have htl:=E2 ((cw v.2.1).setL B.id) (w.done.map ATxn.row) v.2.2 (fun i hi=>by have:=hc16 i hi;show(v.2.1.cl.getD i default).cache.length≤_∧aE ((v.2.1.cl.getD i default).cache.map _);rw[hv.c];exact this) (by omega);have hnt:((v.2.2.map XJ.row).drop 0).take v.2.2.length=v.2.2.map XJ.row:=by rw[Tj];exact Rz (by simp)
 refine WR (Xf 10 4 (fun j hj=>⟨by omega,by rcases j with _|_|j<;>first|exact⟨_,rfl,by simp⟩|omega⟩) rfl rfl (by simp)) ?_;simp only[go_sem,hnt]
 (refine zW qw (z2 (ac [0,1] htl) hla) @hrow (z1 ?_)<;>(repeat with_reducible intro hc))
 all_goals try exact zk1
 refine zOp X5 ?_;simp(disch:=omega) only[go_sem,aa];exact Xk 1 (r:=⟨0,aA B.log,[],[],default,v.2.2⟩) (sT (w:={ v.2.1 with leader:=B.id }) hv.l.cl v.2.2) rfl (by rw[show(dq { v.2.1 with leader:=B.id } v.2.2).done=w.done from hv.d];rfl) (by decide)
theorem tx:Pls [XE [0,1,2,3,4,5,6,7,8,9,10,11,12,13,14,15] .done,XE [0,1,2,3,5,6,10] (.forks 4 (XE [7,8] (.forks 9 (.fork 11 (.fork 12 (XE [13,14,15,16,17,18] .done) 16 (XE [12,13,14,15,17,18] .done)) 16 (XE [11,12,13,14,15,17,18] .done)) 11 (.fork 9 (.fork 12 (XE [13,14,15,16,17,18] .done) 16 (XE [12,13,14,15,17,18] .done)) 16 (XE [9,12,13,14,15,17,18] .done)) 16 (XE [9,11,12,13,14,15,17,18] .done))) 11 (.fork 4 (XE [7,8] (.fork 9 (.fork 12 (XE [13,14,15,16,17,18] .done) 16 (XE [12,13,14,15,17,18] .done)) 16 (XE [9,12,13,14,15,17,18] .done))) 16 (XE [4,7,8,9,12,13,14,15,17,18] .done)) 16 (XE [4,7,8,9,11,12,13,14,15,17,18] .done)),XE [0,1,2,3,4,7,8] (.forks 5 (.fork 6 (.fork 9 (XE [10,11,12,13,14,15] .done) 13 (XE [9,10,11,12,14,15] .done)) 13 (XE [6,9,10,11,12,14,15] .done)) 6 (.fork 5 (.fork 9 (XE [10,11,12,13,14,15] .done) 13 (XE [9,10,11,12,14,15] .done)) 13 (XE [5,9,10,11,12,14,15] .done)) 13 (XE [5,6,9,10,11,12,14,15] .done)),XE [0,1,2,3,4,5,6] .done,XE [0,1,2,3,4,6,7,8,9,10,11,12] (.forks 5 (.fork 13 (XE [14] (.fork 15 (XE [16,17,18,19,20,21,22,23] .done) 20 (XE [15,16,17,18,19,21,22,23] .done))) 20 (XE [13,14,15,16,17,18,19,21,22,23] .done)) 13 (XE [14] (.fork 5 (.fork 15 (XE [16,17,18,19,20,21,22,23] .done) 20 (XE [15,16,17,18,19,21,22,23] .done)) 20 (XE [5,15,16,17,18,19,21,22,23] .done))) 20 (XE [5,13,14,15,16,17,18,19,21,22,23] .done)),XE [0,1,2,3,4,5,6] .done,XE [0,1,2,3,5] (.fork 4 (XE [6,7,8,9,10] .done) 6 (XE [4,7,8,9,10] .done)),XE [0,1,2,3,4,5,6,7,8] .done,XE [0,1,2,3,5,6,10] (.forks 4 (XE [7,8] (.forks 9 (.fork 11 (.fork 12 (XE [13,14,15,16,17,18] .done) 16 (XE [12,13,14,15,17,18] .done)) 16 (XE [11,12,13,14,15,17,18] .done)) 11 (.fork 9 (.fork 12 (XE [13,14,15,16,17,18] .done) 16 (XE [12,13,14,15,17,18] .done)) 16 (XE [9,12,13,14,15,17,18] .done)) 16 (XE [9,11,12,13,14,15,17,18] .done))) 11 (.fork 4 (XE [7,8] (.fork 9 (.fork 12 (XE [13,14,15,16,17,18] .done) 16 (XE [12,13,14,15,17,18] .done)) 16 (XE [9,12,13,14,15,17,18] .done))) 16 (XE [4,7,8,9,12,13,14,15,17,18] .done)) 16 (XE [4,7,8,9,11,12,13,14,15,17,18] .done))]:=pls _
theorem Oo(v:CW)(k i:Nat)(h:i<16):∀ z:Int,(wC v k).set (30+i*3+1) (I z)=wC (v.setC i ⟨(v.c i).session,z,(v.c i).cache⟩) k:=by intro z;rcases i with _|_|_|_|_|_|_|_|_|_|_|_|_|_|_|_|i<;>first|rfl|omega
attribute [go_sem] Oo
theorem N8(n:Int)(i:Nat):decide ((n/2^i).tmod 2=0)=!oP n i:=by
 unfold oP;generalize n/2^i=a;have h1:a.tmod 2=0↔a%2=0:=by rw[←Int.dvd_iff_tmod_eq_zero,←Int.dvd_iff_emod_eq_zero]
 rw[TW,SN,RB,RT,h1];omega
theorem K5(w:AWorld)(d:XO)(hw:WrOk w)(hdw:d.wf)(hdp:d.request.path.length≤1048576)(hc01:0≤d.client∧d.client<16)(hl0:0≤w.leader):ab Tryz.prog (inW w) 52 [.ptr 0 0,d.av] (fC (om w d).1 (om w d).2):=by
 obtain⟨⟨e1,e2,e3⟩,hs,hn,hc16,hcz,hdn,hl3,_⟩:=hw;obtain⟨kind,client,server,rq,lost,slow,keep,watch⟩:=d;obtain⟨_,hcI,_,hrq,hlo,hsl,_,_⟩:=hdw;simp only at hcI hrq hlo hsl hdp hc01;unfold om B3;simp only;rw[Rw (by omega),Rw (by omega)];obtain⟨cl,rfl⟩:∃ cl:Nat,client=(cl:Int):=⟨client.toNat,by omega⟩;have hcl:cl<16:=by omega
 obtain⟨li,hle⟩:∃ li:Nat,w.leader=(li:Int):=⟨w.leader.toNat,by omega⟩;have hli:li<3:=by omega
 have hgl:=hs li hli;have hnx:=tr (w.s li).peer hgl.gs.w.2.2.1.2.2.1.1 hgl.gs.w.2.2.1.2.2.1.2;have hnk:=wc (w.s li).peer;rw[hle];simp only[SW];generalize cD (w.s li).peer=q at hnx hnk ⊢;obtain⟨z,ze⟩:=q;simp only at hnx hnk ⊢;unfold inW fC;refine zJ Tryz.func52 Tryz.ntmps52 Tryz.results52 ?_;simp only[go_sem];refine zW qs zn @hle (z1 ?_)
 all_goals try exact zk3
 refine WS [0,3,4,5] [(6,I z),(7,I ze)] [.cells (wC (cw w) 1),.rows 7 (w.done.map ATxn.row),.cells [I kind,I (cl:Int),I server,I rq.op,I rq.session,S rq.path,S rq.data,I rq.version,I rq.flags,I lost,I slow,I keep,B watch],.cells [I 0,I 0,S [],S [],I 0,I 0,I 0,I 0,I 0,I 0,I 0,.d (.sc (.slice none 0 0))],.cells [I rq.op,I ((cl:Int)+1),S rq.path,S rq.data,I rq.version,I rq.flags]] ?_ ?_
 ·refine zW qw (z2 tx hnx) @hle (z1 ?_)
  all_goals try exact zk1
  all_goals exact zFr [0,1,2,3,4] X5
 simp only[go_sem]
 by_cases hz:ze=0
 case neg=>
  rw[Rx hz]
  (refine zW qs zn X5 (z1 ?_)<;>(repeat with_reducible intro hc))
  all_goals try exact zk3
  all_goals(refine zOp X5 ?_;simp(disch:=omega) only[go_sem,aa];exact WX (r:=noR ze) (rfl) rfl rfl rfl)
 subst hz;rw[Rw (fun h=>h rfl)];have hpr:=Cv (w.s li).tree z ⟨rq.op,(cl:Int)+1,rq.path,rq.data,rq.version,rq.flags⟩ hgl.gs.t ⟨hrq.1,(by show okI ((cl:Int)+1);unfold okI;omega),hrq.2.2.1,hrq.2.2.2.1,hrq.2.2.2.2.1,hrq.2.2.2.2.2⟩ hdp hnk;have hpk:=@sW (w.s li).tree z ⟨rq.op,(cl:Int)+1,rq.path,rq.data,rq.version,rq.flags⟩;generalize bA (w.s li).tree z ⟨rq.op,(cl:Int)+1,rq.path,rq.data,rq.version,rq.flags⟩=p at hpr hpk ⊢;obtain⟨x,pe⟩:=p;simp only at hpr hpk ⊢
 (refine zW qs zn X5 (z1 ?_)<;>(repeat with_reducible intro hc))
 all_goals try exact zk3
 refine WS [0,3,4,6] [(8,.ptr 5 0),(7,I pe)] [.cells (wC (cw w) 1),.rows 7 (w.done.map ATxn.row),.cells [I kind,I (cl:Int),I server,I rq.op,I rq.session,S rq.path,S rq.data,I rq.version,I rq.flags,I lost,I slow,I keep,B watch],.cells [I 0,I 0,S [],S [],I 0,I 0,I 0,I 0,I 0,I 0,I 0,.d (.sc (.slice none 0 0))],.cells [I rq.op,I ((cl:Int)+1),S rq.path,S rq.data,I rq.version,I rq.flags],.cells [I x.zxid,I x.op,I x.session,S x.path,S x.data,I x.version,I x.owner]] ?_ ?_
 ·refine zW qw (z2 tx hpr) @hle (zc ?_ (zc ?_ (zc ?_ (zc ?_ (zc ?_ (zc ?_ (zc ?_ (zc ?_ (z4 ?_ ?_ ?_ ?_)))))))))
  all_goals try exact zk1
  all_goals exact zFr [0,1,2,3,4,5] X5
 simp only[go_sem]
 by_cases hz:pe=0
 case neg=>
  rw[Rx hz]
  (refine zW qs zn X5 (z1 ?_)<;>(repeat with_reducible intro hc))
  all_goals try exact zk3
  all_goals(refine zOp X5 ?_;simp(disch:=omega) only[go_sem,aa];exact WX (r:=noR pe) (rfl) rfl rfl rfl)
 subst hz;rw[Rw (fun h=>h rfl)];obtain⟨hxz,hxa⟩:=hpk rfl;obtain⟨hxw,hxp⟩:=CF (yk hxa).1;clear hpk hpr hnx;rw[←hle];subst hxz;generalize hF:bW x w.leader lost slow [0,1,2] w []=F
 (refine zW qs zn X5 (z1 ?_)<;>(repeat with_reducible intro hc))
 all_goals try exact zk3
 refine WR (WT 9 1 rfl) ?_;simp only[go_sem];refine WQ (ι:=Nat×AWorld×List Nat) (fun v=>XX w x lost slow F v) (fun v=>3-v.1) [0,3,4,6,8] (fun v=>[(67,I v.1),(9,.osl 6 1 0 v.2.2.length)]) (fun v=>[.cells (wC (cw v.2.1) 1),.rows 7 (w.done.map ATxn.row),.cells [I kind,I (cl:Int),I server,I rq.op,I rq.session,S rq.path,S rq.data,I rq.version,I rq.flags,I lost,I slow,I keep,B watch],.cells [I 0,I 0,S [],S [],I 0,I 0,I 0,I 0,I 0,I 0,I 0,.d (.sc (.slice none 0 0))],.cells [I rq.op,I ((cl:Int)+1),S rq.path,S rq.data,I rq.version,I rq.flags],.cells [I x.zxid,I x.op,I x.session,S x.path,S x.data,I x.version,I x.owner],.rows 1 (v.2.2.map gH)]) (0,w,[]) ?_ ?_ ?_
 ·exact⟨RI _,hF,⟨e1,e2,e3⟩,fun i _ _=>rfl,fun i _ _=>rfl,rfl,rfl,rfl,hs,RE _,fun i h=>by cases h⟩
 ·simp only[go_sem];exact zFr [0,1,2,3,4,5,6] X5
 intro v hv;simp only[go_sem];have hvk:=hv.k;have hvld:=hv.ld;obtain⟨hh1,hh2⟩:=hv.h
 by_cases hk4:v.1<3
 ·have hs0:=hv.s v.1 (RE _) hk4
  have hwu:=wT (n:=v.1) (by omega)
  by_cases hf:v.2.1.f v.1=false
  ·have hsk:=hv.skip hk4 hf
   cases hdb:decide ((v.1:Int)=w.leader)
   all_goals(
    (refine zW qs zn (zx @hvld (zx @hdb (zx @hwu @hf))) (z1 ?_)<;>(repeat with_reducible intro hc))
    all_goals try exact zk3
    all_goals refine⟨(v.1+1,v.2),hsk,by simp only;omega,?_⟩
    all_goals exact zFr [0,1,2,3,4,5,6] X5)
  have hft:v.2.1.f v.1=true:=by simpa using hf
  have hbe:=N8 lost v.1;have hse:=N8 slow v.1
  by_cases hb:¬ w.leader=(v.1:Int)∧oP lost v.1=true
  ·have hls:=hv.gone hk4 hf hb
   have k1:=Qc hv.l.fl hk4;have hlf:decide ((v.1:Int)=w.leader)=false:=RM (fun h=>hb.1 h.symm);have hbl:=hb.2
   (refine zW qs zn (zx @hvld (zx @hlf (zx @hwu (zx @hft (zx @hbe @hbl))))) (z1 ?_)<;>(repeat with_reducible intro hc))
   all_goals try exact zk3
   all_goals refine⟨(v.1+1,v.2.1.setF v.1 false,v.2.2),hls,by simp only;omega,?_⟩
   all_goals exact zFr [0,1,2,3,4,5,6] @k1
  generalize hsf:(decide (w.leader=(v.1:Int))||!oP slow v.1)=sf;have hsf2:(bif decide ((v.1:Int)=w.leader) then true else !oP slow v.1)=sf:=by rw[←hsf,show decide ((v.1:Int)=w.leader)=decide (w.leader=(v.1:Int)) from V7.2 ⟨Eq.symm,Eq.symm⟩];cases decide (w.leader=(v.1:Int))<;>rfl
  have hgk:=hs v.1 hk4;have hnk4:=hn v.1 hk4;have htk:=oS (w.s v.1) x sf hgk.gs.w hxw (by omega) (by omega);have hst:=hv.stop hk4 hf hb hsf;have hnx:=fun a=>hv.next hk4 hf hb hsf a hxw (by omega) (by omega)
  generalize bg (w.s v.1) x sf=tk at htk hst hnx;obtain⟨t1,te⟩:=tk;simp only at htk hst hnx
  have hbl:decide ((v.1:Int)=w.leader)=false→oP lost v.1=false:=fun hd=>by
   by_cases hq:oP lost v.1=true
   ·exact absurd ⟨fun h=>by rw[decide_eq_true h.symm] at hd;exact absurd hd (by decide),hq⟩ hb
   ·simpa using hq
  have k2:=vU hv.l.sl hk4 (x:=t1);cases hdb:decide ((v.1:Int)=w.leader)
  ·have hbl:=hbl hdb
   rw[hdb] at hsf2;simp only[UP] at hsf2;have hns:(!sf)=oP slow v.1:=by rw[←hsf2,Ve]
   (refine zW qs zn (zx @hvld (zx @hdb (zx @hwu (zx @hft (zx @hbe (zx @hse (zx @hbl @Ve))))))) (z1 ?_)<;>(repeat with_reducible intro hc))
   all_goals try exact zk3
   all_goals(
    refine WS [0,3,4,6,8,9,10,67] [(12,B (!sf)),(13,.ptr 7 0),(14,I te)] [.cells (wC (cw v.2.1) 1),.rows 7 (w.done.map ATxn.row),.cells [I kind,I (cl:Int),I server,I rq.op,I rq.session,S rq.path,S rq.data,I rq.version,I rq.flags,I lost,I slow,I keep,B watch],.cells [I 0,I 0,S [],S [],I 0,I 0,I 0,I 0,I 0,I 0,I 0,.d (.sc (.slice none 0 0))],.cells [I rq.op,I ((cl:Int)+1),S rq.path,S rq.data,I rq.version,I rq.flags],.cells [I x.zxid,I x.op,I x.session,S x.path,S x.data,I x.version,I x.owner],.rows 1 (v.2.2.map gH),.cells [B t1.up,.d (.sl 3 (t1.disk.files.map AFile.row)),I t1.peer.id,I t1.peer.epoch,.d (.sl 7 (t1.peer.log.map ATxn.row)),I t1.peer.done,I t1.tree.zxid,.d (.sl 9 (t1.tree.nodes.map XG.row)),.d (.sl 1 (t1.tree.sessions.map a8)),.d (.sl 3 (t1.watches.map AWatch.row))]] ?_ ?_
    ·refine zW qw (z2 tx htk) (zx @hs0 (zx @Ve @Va)) (zc ?_ (zc ?_ (zc ?_ (z4 ?_ ?_ ?_ ?_))))
     all_goals try exact zk1
     all_goals(refine zV [0,1,2,3,4,5,6,7] rfl rfl rfl rfl ?_ ?_<;>simp(disch:=omega) only[go_sem,aa,Si,Ve,Va]<;>(try rfl))
     all_goals first|exact congrArg (fun b=>AV.d (DV.bool b)) hsf2.symm|exact congrArg (fun b=>AV.d (DV.bool b)) hns|exact congrArg (fun b=>AV.d (DV.bool b)) hns.symm
    simp only[go_sem]
    by_cases hte:te=0
    case neg=>
     have hF2:=hst hte;subst hF2;simp only[ne_eq,hte,RS,SY]
     (refine zW qs zn X5 (z1 ?_)<;>(repeat with_reducible intro hc))
     all_goals try exact zk3
     all_goals(refine zOp @SH ?_;simp(disch:=omega) only[go_sem,aa,SH];exact WX (r:=noR te) (rfl) rfl rfl (by rw[hv.d];rfl))
    subst hte
    (refine zW qs zn X5 (z1 ?_)<;>(repeat with_reducible intro hc))
    all_goals try exact zk3
    refine WS [0,3,4,6,8,9,10,12,67] [] [.cells (wC (cw (v.2.1.setS v.1 t1)) 1),.rows 7 (w.done.map ATxn.row),.cells [I kind,I (cl:Int),I server,I rq.op,I rq.session,S rq.path,S rq.data,I rq.version,I rq.flags,I lost,I slow,I keep,B watch],.cells [I 0,I 0,S [],S [],I 0,I 0,I 0,I 0,I 0,I 0,I 0,.d (.sc (.slice none 0 0))],.cells [I rq.op,I ((cl:Int)+1),S rq.path,S rq.data,I rq.version,I rq.flags],.cells [I x.zxid,I x.op,I x.session,S x.path,S x.data,I x.version,I x.owner],.rows 1 (v.2.2.map gH)] ?_ ?_
    ·refine zW qw (z1 tx) X5 (z1 ?_)
     all_goals try exact zk1
     all_goals exact zFr [0,1,2,3,4,5,6] @k2
    simp only[go_sem];have hnx:=hnx (fun h=>h rfl);clear hsf hsf2 hns;cases sf
    ·(refine zW qs zn X5 (z1 ?_)<;>(repeat with_reducible intro hc))
     all_goals try exact zk3
     refine⟨(v.1+1,v.2.1.setS v.1 t1,v.2.2),hnx,by simp only;omega,?_⟩;exact zFr [0,1,2,3,4,5,6] X5
    ·(refine zW qs zn X5 (z1 ?_)<;>(repeat with_reducible intro hc))
     all_goals try exact zk3
     refine⟨(v.1+1,v.2.1.setS v.1 t1,v.2.2++[v.1]),hnx,by simp only;omega,?_⟩;exact zFr [0,1,2,3,4,5,8] (zx @List.map_append.{0,0} (zx @List.map_cons.{0,0} (zx @List.map_nil.{0,0} (zx @gH.eq_1 (zx @List.length_append.{0} (zx @List.length_cons.{0} @List.length_nil.{0}))))))
    )
  ·rw[hdb] at hsf2
   simp only[Vl] at hsf2;have hns:(!sf)=false:=by rw[←hsf2];rfl
   (refine zW qs zn (zx @hvld (zx @hdb (zx @hwu @hft))) (z1 ?_)<;>(repeat with_reducible intro hc))
   all_goals try exact zk3
   all_goals(
    refine WS [0,3,4,6,8,9,10,67] [(12,B (!sf)),(13,.ptr 7 0),(14,I te)] [.cells (wC (cw v.2.1) 1),.rows 7 (w.done.map ATxn.row),.cells [I kind,I (cl:Int),I server,I rq.op,I rq.session,S rq.path,S rq.data,I rq.version,I rq.flags,I lost,I slow,I keep,B watch],.cells [I 0,I 0,S [],S [],I 0,I 0,I 0,I 0,I 0,I 0,I 0,.d (.sc (.slice none 0 0))],.cells [I rq.op,I ((cl:Int)+1),S rq.path,S rq.data,I rq.version,I rq.flags],.cells [I x.zxid,I x.op,I x.session,S x.path,S x.data,I x.version,I x.owner],.rows 1 (v.2.2.map gH),.cells [B t1.up,.d (.sl 3 (t1.disk.files.map AFile.row)),I t1.peer.id,I t1.peer.epoch,.d (.sl 7 (t1.peer.log.map ATxn.row)),I t1.peer.done,I t1.tree.zxid,.d (.sl 9 (t1.tree.nodes.map XG.row)),.d (.sl 1 (t1.tree.sessions.map a8)),.d (.sl 3 (t1.watches.map AWatch.row))]] ?_ ?_
    ·refine zW qw (z2 tx htk) (zx @hs0 (zx @Ve @Va)) (zc ?_ (zc ?_ (zc ?_ (z4 ?_ ?_ ?_ ?_))))
     all_goals try exact zk1
     all_goals(refine zV [0,1,2,3,4,5,6,7] rfl rfl rfl rfl ?_ ?_<;>simp(disch:=omega) only[go_sem,aa,Si,Ve,Va]<;>(try rfl))
     all_goals first|exact congrArg (fun b=>AV.d (DV.bool b)) hsf2.symm|exact congrArg (fun b=>AV.d (DV.bool b)) hns|exact congrArg (fun b=>AV.d (DV.bool b)) hns.symm
    simp only[go_sem]
    by_cases hte:te=0
    case neg=>
     have hF2:=hst hte;subst hF2;simp only[ne_eq,hte,RS,SY]
     (refine zW qs zn X5 (z1 ?_)<;>(repeat with_reducible intro hc))
     all_goals try exact zk3
     all_goals(refine zOp @SH ?_;simp(disch:=omega) only[go_sem,aa,SH];exact WX (r:=noR te) (rfl) rfl rfl (by rw[hv.d];rfl))
    subst hte
    (refine zW qs zn X5 (z1 ?_)<;>(repeat with_reducible intro hc))
    all_goals try exact zk3
    refine WS [0,3,4,6,8,9,10,12,67] [] [.cells (wC (cw (v.2.1.setS v.1 t1)) 1),.rows 7 (w.done.map ATxn.row),.cells [I kind,I (cl:Int),I server,I rq.op,I rq.session,S rq.path,S rq.data,I rq.version,I rq.flags,I lost,I slow,I keep,B watch],.cells [I 0,I 0,S [],S [],I 0,I 0,I 0,I 0,I 0,I 0,I 0,.d (.sc (.slice none 0 0))],.cells [I rq.op,I ((cl:Int)+1),S rq.path,S rq.data,I rq.version,I rq.flags],.cells [I x.zxid,I x.op,I x.session,S x.path,S x.data,I x.version,I x.owner],.rows 1 (v.2.2.map gH)] ?_ ?_
    ·refine zW qw (z1 tx) X5 (z1 ?_)
     all_goals try exact zk1
     all_goals exact zFr [0,1,2,3,4,5,6] @k2
    simp only[go_sem];have hnx:=hnx (fun h=>h rfl);clear hsf hsf2 hns;cases sf
    ·(refine zW qs zn X5 (z1 ?_)<;>(repeat with_reducible intro hc))
     all_goals try exact zk3
     refine⟨(v.1+1,v.2.1.setS v.1 t1,v.2.2),hnx,by simp only;omega,?_⟩;exact zFr [0,1,2,3,4,5,6] X5
    ·(refine zW qs zn X5 (z1 ?_)<;>(repeat with_reducible intro hc))
     all_goals try exact zk3
     refine⟨(v.1+1,v.2.1.setS v.1 t1,v.2.2++[v.1]),hnx,by simp only;omega,?_⟩;exact zFr [0,1,2,3,4,5,8] (zx @List.map_append.{0,0} (zx @List.map_cons.{0,0} (zx @List.map_nil.{0,0} (zx @gH.eq_1 (zx @List.length_append.{0} (zx @List.length_cons.{0} @List.length_nil.{0}))))))
    )
 have hF2:=hv.end hk4;subst hF2;simp only[ne_eq,Td,S8]
 by_cases hlt:v.2.2.length<2
 ·rw[Rx hlt]
  (refine zW qs zn X5 (z1 ?_)<;>(repeat with_reducible intro hc))
  all_goals try exact zk3
  all_goals(refine zOp @SH ?_;simp(disch:=omega) only[go_sem,aa,SH];exact WX (r:=⟨16,x.zxid,[],[],default,[]⟩) (iM _) rfl rfl (by show _=some (ABlk.rows 7 (v.2.1.done.map ATxn.row));rw[hv.d];rfl))
 rw[Rw hlt];have hnt:((v.2.2.map gH).drop 0).take v.2.2.length=v.2.2.map gH:=by rw[Tj];exact Rz (by simp)
 refine WR (Xf 9 6 (fun j hj=>⟨by omega,by rcases j with _|_|j<;>first|exact⟨_,rfl,by simp⟩|omega⟩) rfl rfl (by simp)) ?_;simp only[go_sem,hnt];have hl1:=hv.l;have hs1:=hv.sg;have hd1:=hv.d;have hc1:=hv.c;clear hn hgl hs;generalize v.2.1=w1 at hl1 hs1 hd1 hc1 hvld ⊢;generalize v.2.2=L at hh1 hh2 hlt hnt ⊢;unfold Em;simp only;generalize hF2:bn L w1 []=F2
 (refine zW qs zn X5 (z1 ?_)<;>(repeat with_reducible intro hc))
 all_goals try exact zk3
 refine WR (WT 15 3 rfl) ?_;simp only[go_sem];refine WQ (ι:=Nat×AWorld×List XJ) (fun u=>CmInv w1 L F2 u) (fun u=>L.length-u.1) [0,3,4,6,8,164,165] (fun u=>[(166,I u.1),(15,.osl 6 3 0 u.2.2.length)]) (fun u=>[.cells (wC (cw u.2.1) 1),.rows 7 (w.done.map ATxn.row),.cells [I kind,I (cl:Int),I server,I rq.op,I rq.session,S rq.path,S rq.data,I rq.version,I rq.flags,I lost,I slow,I keep,B watch],.cells [I 0,I 0,S [],S [],I 0,I 0,I 0,I 0,I 0,I 0,I 0,.d (.sc (.slice none 0 0))],.cells [I rq.op,I ((cl:Int)+1),S rq.path,S rq.data,I rq.version,I rq.flags],.cells [I x.zxid,I x.op,I x.session,S x.path,S x.data,I x.version,I x.owner],.rows 3 (u.2.2.map XJ.row)]) (0,w1,[]) ?_ ?_ ?_
 ·exact⟨RI _,hF2,hl1,hs1,rfl,RE _,rfl,rfl⟩
 ·simp only[go_sem];exact zFr [0,1,2,3,4,5,7] X5
 intro u hi;simp only[go_sem];have huk:=hi.k;have hun:=hi.n
 by_cases hk5:u.1<L.length
 ·have hrow:∀ z,List.getD (L.map gH) u.1 z=gH (L.getD u.1 default):=fun z=>bJ gH L u.1 z hk5
  have hj3:=hh2 _ (aZ L u.1 hk5);have hst:=@CmInv.stop _ _ _ _ hi hk5;have hnx:=@CmInv.next _ _ _ _ hi hk5;generalize L.getD u.1 default=j at hrow hj3 hst hnx;have hg:=hi.s j hj3;have hlj:=hg.gs.w.2.2.1.2.2.1.1;have hco:=p6 (u.2.1.s j) (u.2.1.s j).peer.log.length hg.gs.w hg.gs.t hg.gs.p;have hst:=@hst j rfl;have hnx:=@hnx j rfl hj3;have hcf:=fb (u.2.1.s j) (u.2.1.s j).peer.log.length;have hg4:=hg.v;generalize au (u.2.1.s j) (u.2.1.s j).peer.log.length=co at hco hst hnx hcf;obtain⟨c1,cn,ce⟩:=co;simp only at hco hst hnx hcf;have k1:=vU hi.l.sl hj3 (x:=c1)
  (refine zW qs zn (zx @hrow @gH.eq_1) (z1 ?_)<;>(repeat with_reducible intro hc))
  all_goals try exact zk3
  refine WS [0,3,4,6,8,15,17,164,165,166] [(18,.ptr 7 0),(19,.d (.sl 3 (cn.map XJ.row))),(20,I ce)] [.cells (wC (cw u.2.1) 1),.rows 7 (w.done.map ATxn.row),.cells [I kind,I (cl:Int),I server,I rq.op,I rq.session,S rq.path,S rq.data,I rq.version,I rq.flags,I lost,I slow,I keep,B watch],.cells [I 0,I 0,S [],S [],I 0,I 0,I 0,I 0,I 0,I 0,I 0,.d (.sc (.slice none 0 0))],.cells [I rq.op,I ((cl:Int)+1),S rq.path,S rq.data,I rq.version,I rq.flags],.cells [I x.zxid,I x.op,I x.session,S x.path,S x.data,I x.version,I x.owner],.rows 3 (u.2.2.map XJ.row),.cells [B c1.up,.d (.sl 3 (c1.disk.files.map AFile.row)),I c1.peer.id,I c1.peer.epoch,.d (.sl 7 (c1.peer.log.map ATxn.row)),I c1.peer.done,I c1.tree.zxid,.d (.sl 9 (c1.tree.nodes.map XG.row)),.d (.sl 1 (c1.tree.sessions.map a8)),.d (.sl 3 (c1.watches.map AWatch.row))]] ?_ ?_
  ·refine zW qw (z2 tx hco) X5 (zc ?_ (zc ?_ (zc ?_ (z4 ?_ ?_ ?_ ?_))))
   all_goals try exact zk1
   all_goals exact zFr [0,1,2,3,4,5,6,7] X5
  simp only[go_sem]
  by_cases hce:ce=0
  case neg=>
   have hF3:=hst hce;subst hF3;simp only[ne_eq,hce,RS,SY]
   (refine zW qs zn X5 (z1 ?_)<;>(repeat with_reducible intro hc))
   all_goals try exact zk3
   all_goals(refine zOp @SH ?_;simp(disch:=omega) only[go_sem,aa,SH];exact WX (r:=noR ce) (rfl) rfl rfl (by show _=some (ABlk.rows 7 (u.2.1.done.map ATxn.row));rw[hi.d,hd1];rfl))
  subst hce
  (refine zW qs zn X5 (z1 ?_)<;>(repeat with_reducible intro hc))
  all_goals try exact zk3
  refine WS [0,3,4,6,8,15,19,164,165,166] [] [.cells (wC (cw (u.2.1.setS j c1)) 1),.rows 7 (w.done.map ATxn.row),.cells [I kind,I (cl:Int),I server,I rq.op,I rq.session,S rq.path,S rq.data,I rq.version,I rq.flags,I lost,I slow,I keep,B watch],.cells [I 0,I 0,S [],S [],I 0,I 0,I 0,I 0,I 0,I 0,I 0,.d (.sc (.slice none 0 0))],.cells [I rq.op,I ((cl:Int)+1),S rq.path,S rq.data,I rq.version,I rq.flags],.cells [I x.zxid,I x.op,I x.session,S x.path,S x.data,I x.version,I x.owner],.rows 3 (u.2.2.map XJ.row)] ?_ ?_
  ·refine zW qw (z1 tx) X5 (z1 ?_)
   all_goals try exact zk1
   all_goals exact zFr [0,1,2,3,4,5,6] @k1
  simp only[go_sem];refine zW qs zn X5 (z1 ?_)
  all_goals try exact zk3
  all_goals(refine⟨_,hnx (fun h=>h rfl),by simp only;omega,?_⟩;exact zFr [0,1,2,3,4,5,7] (zx @List.map_append.{0,0} @List.length_append.{0}))
 have hF3:=hi.end hk5;subst hF3;simp only[ne_eq,Td,S8];have hdn1:u.2.1.done=w.done:=hi.d.trans hd1;have hcu0:u.2.1.cl=w.cl:=hi.c.trans hc1;have hlu0:u.2.1.leader=w.leader:=hi.ld.trans hvld;have hnt2:((u.2.2.map XJ.row).drop 0).take u.2.2.length=u.2.2.map XJ.row:=by rw[Tj];exact Rz (by simp)
 refine WR (Xf 15 6 (fun j hj=>⟨by omega,by rcases j with _|_|j<;>first|exact⟨_,rfl,by simp⟩|omega⟩) rfl rfl (by simp)) ?_;simp only[go_sem,hnt2];have htl:=E2 ((cw u.2.1).setN (w.done.length+1)) (w.done.map ATxn.row++[[.int .i64 x.zxid,.int .i64 x.op,.int .i64 x.session,.str x.path,.str x.data,.int .i64 x.version,.int .i64 x.owner]]) u.2.2 (fun i hi2=>by have:=hc16 i hi2;show(u.2.1.cl.getD i default).cache.length≤_∧aE ((u.2.1.cl.getD i default).cache.map _);rw[hcu0];exact this) (by omega);have htd:((cw u.2.1).setN (w.done.length+1)).told u.2.2 16=cw (dq { u.2.1 with done:=u.2.1.done++[x] } u.2.2):=by rw[show((cw u.2.1).setN (w.done.length+1))=cw { u.2.1 with done:=u.2.1.done++[x] } from by rw[←hdn1];exact EA u.2.1 x];exact sT (w:={ u.2.1 with done:=u.2.1.done++[x] }) hi.l.cl u.2.2
 have hud:(dq { u.2.1 with done:=u.2.1.done++[x] } u.2.2).done=w.done++[x]:=by show u.2.1.done++[x]=_;rw[hdn1]
 have hul:(dq { u.2.1 with done:=u.2.1.done++[x] } u.2.2).leader=w.leader:=hlu0;have hus:∀ i,i<3→SG ((dq { u.2.1 with done:=u.2.1.done++[x] } u.2.2).s i):=hi.s;have huc:(dq { u.2.1 with done:=u.2.1.done++[x] } u.2.2).cl.length=16:=by show(u.2.1.cl.map _).length=16;rw[RC,hi.l.cl]
 generalize dq { u.2.1 with done:=u.2.1.done++[x] } u.2.2=y at htd hud hul hus huc ⊢;have hyl:y.leader=(li:Int):=by rw[hul,hle]
 have hgl:=hus _ hli;have hgt:=iq (y.s li).tree x.path hgl.gs.t.1.2.1.1 (aF hgl.g);rw[hyl];simp only[SW];generalize aw (y.s li).tree x.path=gq at hgt ⊢;obtain⟨gn,ge⟩:=gq;simp only at hgt ⊢;have k3:=GQ huc hcl (x:=⟨(y.c cl).session,x.zxid,(y.c cl).cache⟩);have hle2:(y.setC cl ⟨(y.c cl).session,x.zxid,(y.c cl).cache⟩).leader=(li:Int):=hyl;have hle3:(y.setC cl ⟨(y.c cl).session,x.zxid,(y.c cl).cache⟩).s=y.s:=rfl
 (refine zW qs zn @hdn1 (z1 ?_)<;>(repeat with_reducible intro hc))
 all_goals try exact zk3
 refine WS [0,3,4,6,8] [(15,.d (.sl 3 (u.2.2.map XJ.row)))] [.cells (wC ((cw u.2.1).setN (w.done.length+1)) 6),.dead,.cells [I kind,I (cl:Int),I server,I rq.op,I rq.session,S rq.path,S rq.data,I rq.version,I rq.flags,I lost,I slow,I keep,B watch],.cells [I 0,I 0,S [],S [],I 0,I 0,I 0,I 0,I 0,I 0,I 0,.d (.sc (.slice none 0 0))],.cells [I rq.op,I ((cl:Int)+1),S rq.path,S rq.data,I rq.version,I rq.flags],.cells [I x.zxid,I x.op,I x.session,S x.path,S x.data,I x.version,I x.owner],.rows 7 (w.done.map ATxn.row++[[.int .i64 x.zxid,.int .i64 x.op,.int .i64 x.session,.str x.path,.str x.data,.int .i64 x.version,.int .i64 x.owner]])] ?_ ?_
 ·refine zW qw (z1 tx) @hdn1 (z2 ?_ ?_)
  all_goals try exact zk1
  all_goals exact zFr [0,1,2,3,4,5,8] X5
 simp only[go_sem];refine zW qs (z1 (ac [0,6] htl)) @htd (z1 ?_)
 all_goals try exact zk3
 refine WS [0,3,4,6,8,15] [] [.cells (wC (cw (y.setC cl ⟨(y.c cl).session,x.zxid,(y.c cl).cache⟩)) 6),.dead,.cells [I kind,I (cl:Int),I server,I rq.op,I rq.session,S rq.path,S rq.data,I rq.version,I rq.flags,I lost,I slow,I keep,B watch],.cells [I 0,I 0,S [],S [],I 0,I 0,I 0,I 0,I 0,I 0,I 0,.d (.sc (.slice none 0 0))],.cells [I rq.op,I ((cl:Int)+1),S rq.path,S rq.data,I rq.version,I rq.flags],.cells [I x.zxid,I x.op,I x.session,S x.path,S x.data,I x.version,I x.owner],.rows 7 (w.done.map ATxn.row++[[.int .i64 x.zxid,.int .i64 x.op,.int .i64 x.session,.str x.path,.str x.data,.int .i64 x.version,.int .i64 x.owner]])] ?_ ?_
 ·refine zW qw (z1 tx) X5 (z1 ?_)
  all_goals try exact zk1
  all_goals exact zFr [0,1,2,3,4,5,6] @k3
 simp only[go_sem];refine zW qs zn X5 (z1 ?_);refine WS [0,3,4,6,8,15] [(21,.ptr 7 0)] [.cells (wC (cw (y.setC cl ⟨(y.c cl).session,x.zxid,(y.c cl).cache⟩)) 6),.dead,.cells [I kind,I (cl:Int),I server,I rq.op,I rq.session,S rq.path,S rq.data,I rq.version,I rq.flags,I lost,I slow,I keep,B watch],.cells [I 0,I 0,S [],S [],I 0,I 0,I 0,I 0,I 0,I 0,I 0,.d (.sc (.slice none 0 0))],.cells [I rq.op,I ((cl:Int)+1),S rq.path,S rq.data,I rq.version,I rq.flags],.cells [I x.zxid,I x.op,I x.session,S x.path,S x.data,I x.version,I x.owner],.rows 7 (w.done.map ATxn.row++[[.int .i64 x.zxid,.int .i64 x.op,.int .i64 x.session,.str x.path,.str x.data,.int .i64 x.version,.int .i64 x.owner]]),.cells [S gn.path,S gn.data,I gn.stat.czxid,I gn.stat.mzxid,I gn.stat.pzxid,I gn.stat.version,I gn.stat.cversion,I gn.stat.owner,I gn.stat.kids]] ?_ ?_
 ·refine zW qw (z2 tx hgt) (zx @hle2 @hle3) (zc ?_ (zc ?_ (zc ?_ (zc ?_ (zc ?_ (zc ?_ (zc ?_ (zc ?_ (z4 ?_ ?_ ?_ ?_)))))))))
  all_goals try exact zk1
  all_goals exact zFr [0,1,2,3,4,5,6,7] X5
 simp only[go_sem];refine zW qw zn X5 (z1 ?_);refine zOp X5 ?_;simp(disch:=omega) only[go_sem,aa];exact Xk 6 (r:=⟨0,x.zxid,x.path,[],gn.stat,u.2.2⟩) rfl rfl (by rw[show(y.setC cl ⟨(y.c cl).session,x.zxid,(y.c cl).cache⟩).done=w.done++[x] from hud,Sb];rfl) (by decide)
theorem C8:Pls [XE [0,1,3,4,7] (.forks 2 (XE [5] (.forks 6 (.fork 8 (.fork 9 (XE [10,11,12,13,14,15] .done) 13 (XE [9,10,11,12,14,15] .done)) 13 (XE [8,9,10,11,12,14,15] .done)) 8 (.fork 6 (.fork 9 (XE [10,11,12,13,14,15] .done) 13 (XE [9,10,11,12,14,15] .done)) 13 (XE [6,9,10,11,12,14,15] .done)) 13 (XE [6,8,9,10,11,12,14,15] .done))) 8 (.fork 2 (XE [5] (.fork 6 (.fork 9 (XE [10,11,12,13,14,15] .done) 13 (XE [9,10,11,12,14,15] .done)) 13 (XE [6,9,10,11,12,14,15] .done))) 13 (XE [2,5,6,9,10,11,12,14,15] .done)) 13 (XE [2,5,6,8,9,10,11,12,14,15] .done)),XE [0,1,2,3,4,5,6,7] .done,XE [0,1,2,3,4,5,6] .done,XE [0,2,3,5,6] (.forks 1 (.fork 4 (XE [7,8] (.fork 9 (.fork 10 (XE [11,12,13,14,15,16] .done) 14 (XE [10,11,12,13,15,16] .done)) 14 (XE [9,10,11,12,13,15,16] .done))) 14 (XE [4,7,8,9,10,11,12,13,15,16] .done)) 4 (XE [7,8] (.forks 1 (.fork 9 (.fork 10 (XE [11,12,13,14,15,16] .done) 14 (XE [10,11,12,13,15,16] .done)) 14 (XE [9,10,11,12,13,15,16] .done)) 9 (.fork 1 (.fork 10 (XE [11,12,13,14,15,16] .done) 14 (XE [10,11,12,13,15,16] .done)) 14 (XE [1,10,11,12,13,15,16] .done)) 14 (XE [1,9,10,11,12,13,15,16] .done))) 14 (XE [1,4,7,8,9,10,11,12,13,15,16] .done)),XE [0,1,2,3,4,5,6,7] .done]:=pls _
theorem mY(e:Int):ab Tryz.prog [] 48 [I e] (ret (XN.av ⟨e,0,[],[],⟨0,0,0,0,0,0,0⟩,[]⟩)):=by refine zJ Tryz.func48 Tryz.ntmps48 Tryz.results48 ?_;simp only[go_sem];refine zW qw zn X5 (z1 ?_);exact zEe X5
theorem WY{hp:List ABlk}{w:AWorld}{e:Int}{v:CW}{x:AV}(p:Nat)(hv:v=cw w)(h0:hp[0]?=some (.cells (wC v p)))(h1:hp[p]?=some (.rows 7 (w.done.map ATxn.row)))(hp0:p≠0)(hx:x=XN.av ⟨e,0,[],[],⟨0,0,0,0,0,0,0⟩,[]⟩) :
  af 2 hp x (fC w (noR e)):=by
 subst hx;exact Xg p hv h0 h1 hp0 (by simp[cA,cF,XN.av]) (iT _)
theorem Xi{hp:List ABlk}{w:AWorld}{r:XN}{v:CW}{x:AV}(p:Nat)(hv:v=cw w)(h0:hp[0]?=some (.cells (wC v p)))(h1:hp[p]?=some (.rows 7 (w.done.map ATxn.row)))(hp0:p≠0)(hx:x=r.av) :
  af 2 hp x (fC w r):=by
 subst hx;exact Xg p hv h0 h1 hp0 (by simp[cA,cF,XN.av]) (iT _)
theorem Q2(w:AWorld)(d:XO)(n:Nat)(h:dH w n)(hn:n<1000)(h0:0≤w.deeds)(h30:w.deeds≤300)(hdw:d.wf)(hdp:d.request.path.length≤1048576):ab Tryz.prog (inW w) 15 [.ptr 0 0,d.av] (fC (doW w d).1 (doW w d).2):=by
 unfold doW
 by_cases h3:300≤w.deeds
 ·rw[Rx h3]
  unfold inW fC;refine zJ Tryz.func15 Tryz.ntmps15 Tryz.results15 ?_;simp only[go_sem]
  (refine zW qw (z1 (mY 6)) X5 (z1 ?_)<;>(repeat with_reducible intro hc))
  all_goals try exact zk2
  all_goals(
   refine zOp X5 ?_;simp(disch:=omega) only[go_sem,aa]
   exact WY (e:=6) 1 rfl rfl rfl (by decide) rfl)
 rw[Rw h3];have hde:w.deeds≠300:=by omega
 have h:=h.deed (w.deeds+1);have hwr:=fun h1 h2=>K5 { w with deeds:=w.deeds+1 } d (h.wr hn) hdw hdp h1 h2
 have hwe:dx { w with deeds:=w.deeds+1 } d=om { w with deeds:=w.deeds+1 } d:=h.1.elim fun g hg=>hg.elim fun es hes=>hes.elim fun K h1=>Hg h1 hn d
 have hrd:=Mr { w with deeds:=w.deeds+1 } d (h.rd hn) hdw hdp;have hel:=HK { w with deeds:=w.deeds+1 } (h.el hn);have hsv:=fun i (hi:i<3)=>(h.server hn hi).1
 have k1:(cw w).setD (w.deeds+1)=cw { w with deeds:=w.deeds+1 }:=rfl;have k2:w.done=({ w with deeds:=w.deeds+1 }:AWorld).done:=rfl;obtain⟨e1,e2,e3⟩:=h.wl;generalize ({ w with deeds:=w.deeds+1 }:AWorld)=w' at hwr hwe hrd hel hsv k1 k2 e1 e2 e3 ⊢;clear h;unfold qW
 by_cases q1:d.kind=1
 ·rw[Rx q1]
  by_cases c1:d.client<0∨16≤d.client
  ·unfold dx
   rw[Rx c1];unfold inW fC;refine zJ Tryz.func15 Tryz.ntmps15 Tryz.results15 ?_;simp only[go_sem]
   (refine zW qw (z1 (mY 3)) (zx @k1 (zx @k2 (zx @q1 @hde))) (z1 ?_)<;>(repeat with_reducible intro hc))
   all_goals try exact zk2
   all_goals(
    refine zOp X5 ?_;simp(disch:=omega) only[go_sem,aa]
    exact WY (e:=3) 1 rfl rfl rfl (by decide) rfl)
  by_cases c2:w'.leader<0
  ·unfold dx
   rw[Rw c1,Rx c2];unfold inW fC;refine zJ Tryz.func15 Tryz.ntmps15 Tryz.results15 ?_;simp only[go_sem]
   (refine zW qw (z1 (mY 14)) (zx @k1 (zx @k2 (zx @q1 @hde))) (z1 ?_)<;>(repeat with_reducible intro hc))
   all_goals try exact zk2
   all_goals(
    refine zOp X5 ?_;simp(disch:=omega) only[go_sem,aa]
    exact WY (e:=14) 1 rfl rfl rfl (by decide) rfl)
  rw[hwe];have hwr:=hwr (by omega) (by omega);unfold inW fC at hwr;unfold inW fC;generalize om w' d=R at hwr ⊢;obtain⟨u,r⟩:=R;simp only at hwr ⊢;refine zJ Tryz.func15 Tryz.ntmps15 Tryz.results15 ?_;simp only[go_sem]
  (refine zW qw (z1 (ac [0,1] hwr)) (zx @k1 (zx @k2 (zx @q1 @hde))) (z1 ?_)<;>(repeat with_reducible intro hc))
  all_goals try exact zk2
  all_goals(
   refine zOp X5 ?_;simp(disch:=omega) only[go_sem,aa]
   exact Xi (r:=r) 4 rfl rfl rfl (by decide) rfl)
 rw[Rw q1]
 by_cases q2:d.kind=2
 ·rw[Rx q2]
  by_cases c1:d.client<0∨16≤d.client∨d.server<0∨3≤d.server
  ·unfold ib
   rw[Rx c1];unfold inW fC;refine zJ Tryz.func15 Tryz.ntmps15 Tryz.results15 ?_;simp only[go_sem]
   (refine zW qw (z1 (mY 3)) (zx @k1 (zx @k2 (zx @q2 @hde))) (z1 ?_)<;>(repeat with_reducible intro hc))
   all_goals try exact zk2
   all_goals(
    refine zOp X5 ?_;simp(disch:=omega) only[go_sem,aa]
    exact WY (e:=3) 1 rfl rfl rfl (by decide) rfl)
  have hrd:=hrd (by omega);unfold inW fC at hrd;unfold inW fC;generalize ib w' d=R at hrd ⊢;obtain⟨u,r⟩:=R;simp only at hrd ⊢;refine zJ Tryz.func15 Tryz.ntmps15 Tryz.results15 ?_;simp only[go_sem]
  (refine zW qw (z1 (ac [0,1] hrd)) (zx @k1 (zx @k2 (zx @q2 @hde))) (z1 ?_)<;>(repeat with_reducible intro hc))
  all_goals try exact zk2
  all_goals(
   refine zOp X5 ?_;simp(disch:=omega) only[go_sem,aa]
   exact Xi (r:=r) 4 rfl rfl rfl (by decide) rfl)
 rw[Rw q2]
 by_cases q5:d.kind=5
 ·rw[Rx q5]
  unfold inW fC at hel;unfold inW fC;generalize dj w'=R at hel ⊢;obtain⟨u,r⟩:=R;simp only at hel ⊢;refine zJ Tryz.func15 Tryz.ntmps15 Tryz.results15 ?_;simp only[go_sem]
  (refine zW qw (z1 (ac [0,1] hel)) (zx @k1 (zx @k2 (zx @q5 @hde))) (z1 ?_)<;>(repeat with_reducible intro hc))
  all_goals try exact zk2
  all_goals(
   refine zOp X5 ?_;simp(disch:=omega) only[go_sem,aa]
   exact Xi (r:=r) 4 rfl rfl rfl (by decide) rfl)
 rw[Rw q5]
 by_cases q3:d.kind=3∨d.kind=4
 case neg=>
  rw[Rw q3];unfold inW fC;refine zJ Tryz.func15 Tryz.ntmps15 Tryz.results15 ?_;simp only[go_sem]
  (refine zW qw (z1 (mY 4)) (zx @k1 (zx @k2 @hde)) (z1 ?_)<;>(repeat with_reducible intro hc))
  all_goals try exact zk2
  all_goals(
   refine zOp X5 ?_;simp(disch:=omega) only[go_sem,aa]
   exact WY (e:=4) 1 rfl rfl rfl (by decide) rfl)
 rw[Rx q3]
 by_cases hs:d.server<0∨3≤d.server
 ·rw[Rx hs]
  unfold inW fC;refine zJ Tryz.func15 Tryz.ntmps15 Tryz.results15 ?_;simp only[go_sem]
  (refine zW qw (z1 (mY 3)) (zx @k1 (zx @k2 @hde)) (z2 ?_ ?_)<;>(repeat with_reducible intro hc))
  all_goals try exact zk2
  all_goals(
   refine zOp X5 ?_;simp(disch:=omega) only[go_sem,aa]
   exact WY (e:=3) 1 rfl rfl rfl (by decide) rfl)
 rw[Rw hs];obtain⟨kind,client,server,rq,lost,slow,keep,watch⟩:=d;simp only at q1 q2 q5 q3 hs hdw ⊢;obtain⟨i,rfl⟩:∃ i:Nat,server=(i:Int):=⟨server.toNat,by omega⟩;have hi:i<3:=by omega
 simp only[SW];clear hwr hwe hrd hel;have hsi:=hsv i hi
 by_cases q4:kind=4
 ·subst q4
  rw[Rx rfl];have hct:=vA (i:Int) (w'.s i).disk hsi.2.1.1 hsi.2.1.2;unfold upW
  by_cases hu:(w'.s i).up=true
  ·rw[Rx hu]
   unfold inW fC;refine zJ Tryz.func15 Tryz.ntmps15 Tryz.results15 ?_;simp only[go_sem]
   (refine zW qw (z2 C8 (mY 8)) (zx @k1 (zx @k2 (zx @hde @hu))) (z1 ?_)<;>(repeat with_reducible intro hc))
   all_goals try exact zk2
   all_goals(
    refine zOp X5 ?_;simp(disch:=omega) only[go_sem,aa]
    exact WY (e:=8) 1 rfl rfl rfl (by decide) rfl)
  rw[Rw hu];have hu2:(w'.s i).up=false:=by simpa using hu
  generalize cK (i:Int) (w'.s i).disk.files=q at hct ⊢;obtain⟨x,e⟩:=q;simp only at hct ⊢
  by_cases he:e=0
  ·subst he
   rw[Rw (fun h=>h rfl)];have k3:=vU e1 hi (x:=x);unfold inW fC;refine zJ Tryz.func15 Tryz.ntmps15 Tryz.results15 ?_;simp only[go_sem]
   (refine zW qw (z3 C8 hct (mY 0)) (zx @k1 (zx @k2 (zx @hde @hu2))) (zc ?_ (zc ?_ (zc ?_ (zc ?_ (zc ?_ (zc ?_ (zc ?_ (zc ?_ (z4 ?_ ?_ ?_ ?_)))))))))<;>(repeat with_reducible intro hc))
   all_goals try exact zk2
   all_goals(
    refine zOp X5 ?_;simp(disch:=omega) only[go_sem,aa]
    exact WY (e:=0) 1 k3 rfl rfl (by decide) rfl)
  ·rw[Rx he]
   unfold inW fC;refine zJ Tryz.func15 Tryz.ntmps15 Tryz.results15 ?_;simp only[go_sem]
   (refine zW qw (z3 C8 hct (mY e)) (zx @k1 (zx @k2 (zx @hde @hu2))) (zc ?_ (zc ?_ (zc ?_ (zc ?_ (zc ?_ (zc ?_ (zc ?_ (zc ?_ (z4 ?_ ?_ ?_ ?_)))))))))<;>(repeat with_reducible intro hc))
   all_goals try exact zk2
   all_goals(
    refine zOp X5 ?_;simp(disch:=omega) only[go_sem,aa]
    exact WY (e:=e) 1 rfl rfl rfl (by decide) rfl)
 obtain rfl:kind=3:=by omega
 rw[Rw q4];have hct:=yQ (w'.s i) keep hsi;unfold iu
 by_cases hu:(w'.s i).up=false
 ·rw[Rx hu]
  unfold inW fC;refine zJ Tryz.func15 Tryz.ntmps15 Tryz.results15 ?_;simp only[go_sem]
  (refine zW qw (z2 C8 (mY 14)) (zx @k1 (zx @k2 (zx @hde @hu))) (z1 ?_)<;>(repeat with_reducible intro hc))
  all_goals try exact zk2
  all_goals(
   refine zOp X5 ?_;simp(disch:=omega) only[go_sem,aa]
   exact WY (e:=14) 1 rfl rfl rfl (by decide) rfl)
 rw[Rw hu];have hu2:(w'.s i).up=true:=by simpa using hu
 generalize bR (w'.s i) keep=q at hct ⊢;obtain⟨x,e⟩:=q;simp only at hct ⊢
 by_cases he:e=0
 case neg=>
  rw[Rx he];unfold inW fC;refine zJ Tryz.func15 Tryz.ntmps15 Tryz.results15 ?_;simp only[go_sem]
  (refine zW qw (z3 C8 hct (mY e)) (zx @k1 (zx @k2 (zx @hde @hu2))) (zc ?_ (zc ?_ (zc ?_ (zc ?_ (zc ?_ (zc ?_ (zc ?_ (zc ?_ (z4 ?_ ?_ ?_ ?_)))))))))<;>(repeat with_reducible intro hc))
  all_goals try exact zk2
  all_goals(
   refine zOp X5 ?_;simp(disch:=omega) only[go_sem,aa]
   exact WY (e:=e) 1 rfl rfl rfl (by decide) rfl)
 subst he;rw[Rw (fun h=>h rfl)];have k3:=vU e1 hi (x:=x);have k4:=KH e2 hi x i false
 by_cases hl:w'.leader=(i:Int)
 ·rw[Rx hl]
  unfold inW fC;refine zJ Tryz.func15 Tryz.ntmps15 Tryz.results15 ?_;simp only[go_sem]
  (refine zW qw (z2 C8 hct) (zx @k1 (zx @k2 (zx @hde (zx @hu2 (zx @k3 (zx @k4 @hl)))))) (zc ?_ (zc ?_ (zc ?_ (zc ?_ (zc ?_ (zc ?_ (zc ?_ (zc ?_ (zc ?_ (zc ?_ (zc ?_ (zc ?_ (zc ?_ (zc ?_ (zc ?_ (zc ?_ (zc ?_ (zc ?_ (zc ?_ (zc ?_ (z4 ?_ ?_ ?_ ?_)))))))))))))))))))))<;>(repeat with_reducible intro hc))
  all_goals try exact zk2
  all_goals(
   refine zOp X5 ?_;simp(disch:=omega) only[go_sem,aa]
   exact WX (r:=noR 0) (iM _) rfl rfl rfl)
 ·rw[Rw hl]
  unfold inW fC;refine zJ Tryz.func15 Tryz.ntmps15 Tryz.results15 ?_;simp only[go_sem]
  (refine zW qw (z2 C8 hct) (zx @k1 (zx @k2 (zx @hde (zx @hu2 (zx @k3 @k4))))) (zc ?_ (zc ?_ (zc ?_ (zc ?_ (zc ?_ (zc ?_ (zc ?_ (zc ?_ (zc ?_ (zc ?_ (zc ?_ (zc ?_ (zc ?_ (zc ?_ (zc ?_ (zc ?_ (zc ?_ (zc ?_ (zc ?_ (zc ?_ (z4 ?_ ?_ ?_ ?_)))))))))))))))))))))<;>(repeat with_reducible intro hc))
  all_goals try exact zk2
  all_goals(
   refine zOp X5 ?_;simp(disch:=omega) only[go_sem,aa]
   exact WX (r:=noR 0) rfl rfl rfl rfl)
structure X3 (l:List XO) (v:Nat×AWorld):Prop where
 k:v.1≤l.length
 m:v.1≤100
 w:v.2=jX gE (l.take v.1)
 a:dH v.2 v.1
 d0:0≤v.2.deeds
 d1:v.2.deeds≤v.1
theorem rz(w:AWorld)(l:List XO)(d:XO):jX w (l++[d])=(doW (jX w l) d).1:=by unfold jX;rw[Tm];rfl
theorem X3.start(l:List XO):X3 l (0,gE):=⟨RI _,RI _,by simp only[S4];rfl,dH.start,Su _,Su _⟩
theorem X3.next{l:List XO}{v:Nat×AWorld}(h:X3 l v)(hk:v.1<l.length)(hm:v.1<100){u:AWorld}{r:XN}(hR:doW v.2 (l.getD v.1 default)=(u,r)):X3 l (v.1+1,u):=by obtain⟨h1,h2,h3,h4,h5,h6⟩:=h;have ha:=h4.does (by omega) (l.getD v.1 default);have hb:=nc (d:=l.getD v.1 default) h5;have hw:=rz gE (l.take v.1) (l.getD v.1 default);rw[←aN l _ hk,←h3] at hw;rw[hR] at ha hb hw;simp only at hb hw;exact⟨hk,hm,hw.symm,ha,hb.1,by simp only;omega⟩
theorem X3.end{l:List XO}{v:Nat×AWorld}(h:X3 l v)(hk:¬ (v.1<l.length∧v.1<100)):v.2=jX gE (l.take 100):=by
 have h1:=h.k;have h2:=h.m;rw[h.w]
 by_cases e:v.1=100
 ·rw[e]
 ·rw[Rz (i:=v.1) (by omega),Rz (i:=100) (by omega)]
theorem dH.all:∀(l:List XO) {w:AWorld} {n:Nat},dH w n→n+l.length≤1000→0≤w.deeds→w.deeds≤n→dH (jX w l) (n+l.length)∧0≤(jX w l).deeds∧(jX w l).deeds≤((n+l.length:Nat):Int)
 |[],w,n,h,_,h0,h1=>⟨h,h0,h1⟩
 | d::l,w,n,h,hn,h0,h1=>by
   rw[RD] at hn ⊢;have hb:=nc (d:=d) h0
   have:=dH.all l (h.does (by omega) d) (by omega) hb.1 (by omega);rw[show n+(l.length+1)=n+1+l.length by omega];exact this
structure TrInv (Y:List ATxn) (v:Nat×XI):Prop where
 k:v.1≤Y.length
 p:cu t00 (Y.take v.1)=some v.2
theorem qRw0:Pls [XE [0,1,2,4,5,6,7,8] (.fork 3 (XE [9,10,11] .done) 9 (XE [3,10,11] .done))]:=pls _
theorem zH(a:XN)(h:a.notes.length*32≤140737488351232):ab Tryz.prog [] 14 [a.av,a.av] (ret (B true)):=by
 have hn:=(yP a.notes a.notes h h).re (congrArg B (decide_eq_true rfl));refine zJ Tryz.func14 Tryz.ntmps14 Tryz.results14 ?_;simp only[go_sem];refine zW qw (z1 hn) X5 (z1 ?_)
 all_goals try exact zk2
 all_goals exact zEe X5
theorem xr:∀(l:List XO) (w:AWorld),(jQ w l).2.length=l.length
 |[],w=>rfl
 |d::l,w=>by rw[jQ,RD,RD,xr l]
theorem AL:∀(l:List XO) (w:AWorld) (i:Nat),i<l.length→(jQ w l).2.getD i default=(doW (jX w (l.take i)) (l.getD i default)).2
 |[],w,i,h=>absurd h (UE i)
 |d::l,w,0,h=>rfl
 | d::l,w,i+1,h=>by
   rw[jQ,VB,S3,VB];exact AL l _ i (by simpa using h)
structure X2 (l:List XO) (v:Nat×AWorld):Prop where
 k:v.1≤l.length
 w:v.2=jX gE (l.take v.1)
 a:dH v.2 v.1
 d0:0≤v.2.deeds
 d1:v.2.deeds≤v.1
theorem X2.start(l:List XO):X2 l (0,gE):=⟨RI _,by simp only[S4];rfl,dH.start,Su _,Su _⟩
theorem X2.next{l:List XO}{v:Nat×AWorld}(h:X2 l v)(hk:v.1<l.length)(hl:l.length≤300){u:AWorld}{r:XN}(hR:doW v.2 (l.getD v.1 default)=(u,r)):X2 l (v.1+1,u):=by obtain⟨h1,h3,h4,h5,h6⟩:=h;have ha:=h4.does (by omega) (l.getD v.1 default);have hb:=nc (d:=l.getD v.1 default) h5;have hw:=rz gE (l.take v.1) (l.getD v.1 default);rw[←aN l _ hk,←h3] at hw;rw[hR] at ha hb hw;simp only at hb hw;exact⟨hk,hw.symm,ha,hb.1,by simp only;omega⟩
theorem B0(l:List XO)(hl:∀ d,d∈l→d.wf∧d.request.path.length≤1048576)(hll:l.length≤1048576):ab Tryz.prog [] 3 [.d (.sl 13 (l.map XO.row))] (ret (B true)):=by
 have hr1:=HR l hl (by omega);have hr2:=HR [⟨99,0,0,⟨0,0,[],[],0,0⟩,0,0,0,false⟩] (fun d hd=>by rw[SM.1 hd];exact⟨by unfold XO.wf XK.wf okI okS;decide,by decide⟩) (by decide);have hx1:(DN [⟨99,0,0,⟨0,0,[],[],0,0⟩,0,0,0,false⟩]).1.length=1:=rfl;generalize DN [⟨99,0,0,⟨0,0,[],[],0,0⟩,0,0,0,false⟩]=X at hr2 hx1;obtain⟨xl,xe⟩:=X;simp only at hr2 hx1
 by_cases h3:300<l.length
 ·have e:DN l=([],6):=Rx h3
  rw[e] at hr1;refine zJ Tryz.func3 Tryz.ntmps3 Tryz.results3 ?_;simp only[go_sem]
  (refine zW qw (z2 hr1 hr2) @hx1 (z1 ?_)<;>(repeat with_reducible intro hc))
  all_goals try exact zk2
  all_goals exact zEe X5
 have e:DN l=((jQ gE l).2,0):=Rw h3;rw[e] at hr1;have hal:=xr l gE;have hat:=fun i h=>AL l gE i h
 generalize (jQ gE l).2=A at hr1 hal hat;simp only at hr1;refine zJ Tryz.func3 Tryz.ntmps3 Tryz.results3 ?_;simp only[go_sem]
 (refine zW qw (z3 hr1 hr2 Px) (zx @hx1 @hal) (z1 ?_)<;>(repeat with_reducible intro hc))
 all_goals try exact zk2
 all_goals(
  refine WQ (ι:=Nat×AWorld) (fun v=>X2 l v) (fun v=>l.length-v.1) [0,3,7] (fun v=>[(8,I v.1)]) (fun v=>[.dead,.dead,.cells (wC (cw v.2) 3),.rows 7 (v.2.done.map ATxn.row)]) (0,gE) ?_ ?_ ?_
  ·exact X2.start l
  ·simp only[go_sem];exact zFr [0,1,2,3] X5
  intro v hv;simp only[go_sem];have hvk:=hv.k
  by_cases hk:v.1<l.length
  ·have hdm:l.getD v.1 default∈l:=by rw[Ru,Rv hk];exact So hk
   have hdo:=Q2 v.2 (l.getD v.1 default) v.1 hv.a (by omega) hv.d0 (by have:=hv.d1;omega) (hl _ hdm).1 (hl _ hdm).2;have hAr:∀ z,List.getD (A.map XN.row) v.1 z=(A.getD v.1 default).row:=fun z=>XN.rgetD A v.1 z (by omega)
   have hat1:=hat v.1 hk;rw[←hv.w] at hat1;rw[hat1] at hAr;have hnf:=Fs hv.a (l.getD v.1 default);have hnx:=fun u r=>@X2.next l v hv hk (by omega) u r
   unfold inW fC at hdo;generalize doW v.2 (l.getD v.1 default)=R at hdo hAr hnf hnx;obtain⟨u,r⟩:=R;have hnx:=hnx u r rfl;simp only at hdo hAr hnf;have hsr:=zH r (by omega)
   (refine zW qw (z3 qRw0 (ac [2,3] hdo) hsr) @hAr (z2 ?_ ?_)<;>(repeat with_reducible intro hc))
   all_goals try exact zk2
   all_goals refine⟨(v.1+1,u),hnx,by simp only;omega,?_⟩
   all_goals exact zFr [0,1,2,4] X5
  ·(refine zW qw zn X5 (z1 ?_)<;>(repeat with_reducible intro hc))
   all_goals try exact zk2
   all_goals exact zEe X5)
theorem AT(dss:List (List DV))(h:vb T 6 Tryz.f3.params.toList dss)(hs:∀ cs,cs∈dss→∀ c,c∈cs→XW 1048576 c):ab Tryz.prog [] 3 (oZ T Tryz.f3.params.toList dss) (fun v _=>v=B true):=by rw[Tryz.params3] at h ⊢;simp only[Sx,vb] at h;obtain⟨c0,d0,rfl,h0,rfl⟩:=h;have s0:=hs c0 (by simp);obtain⟨l,rfl,v_l,w_l⟩:=Qr (m:=5) (e:=30) (sz:=13) (by_:=120) (f:=XO.row) (wf:=XO.wf) (by simp only[Pc,LH]) (by simp only[Nc,Gy]) (by simp only[Nc,Gy]) (fun r hr=>Au (m:=2) hr) h0;have u_l:=s0;simp only[Sx,oZ,IU,Xm,Pc,LH];exact(B0 l (fun d hd=>⟨w_l d hd,((u_l (DV.sl 13 (l.map XO.row)) (by simp)).rows.2 _ (TZ hd) (DV.str d.request.path) (by simp[XO.row])).len⟩) (by simpa using(u_l (DV.sl 13 (l.map XO.row)) (by simp)).rows.1)).mono fun _ _ h=>h.1
end Go.Proofs.YtjcooccnfkfjhaaGreatDoor
