/- What the law leans on. No condition. -/
import Derived.Test.YtjcooccnfkfjhaaGreatDoorPlyK7
namespace Go.Proofs.YtjcooccnfkfjhaaGreatDoor
set_option maxHeartbeats 32000000
set_option linter.unusedVariables false
set_option linter.unusedSimpArgs false
open Go Go.RowKit Tryz
set_option maxRecDepth 100000
theorem JV(w:AWorld)(d:X1)(hw:WrOk w)(hdw:d.wf)(hdp:d.request.path.length≤1048576)(hc01:0≤d.client∧d.client<16)(hl0:0≤w.leader):ab prog (inW w) 52 [.ptr 0 0,d.av] (fF (oX w d).1 (oX w d).2):=by
 obtain⟨⟨e1,e2,e3⟩,hs,hn,hc16,hcz,hdn,hl3,_⟩:=hw;obtain⟨kind,client,server,rq,lost,slow,keep,watch⟩:=d;obtain⟨_,hcI,_,hrq,hlo,hsl,_,_⟩:=hdw;simp only at hcI hrq hlo hsl hdp hc01;unfold oX AX;simp only;rw[RI (by omega),RI (by omega)];obtain⟨cl,rfl⟩:∃ cl:Nat,client=(cl:Int):=⟨client.toNat,by omega⟩;have hcl:cl<16:=by omega
 obtain⟨li,hle⟩:∃ li:Nat,w.leader=(li:Int):=⟨w.leader.toNat,by omega⟩;have hli:li<3:=by omega
 have hgl:=hs li hli;have hnx:=uR (w.s li).peer hgl.gs.w.2.2.1.2.2.1.1 hgl.gs.w.2.2.1.2.2.1.2;have hnk:=wZ (w.s li).peer;rw[hle];simp only[Ta];generalize cD (w.s li).peer=q at hnx hnk ⊢;obtain⟨z,ze⟩:=q;simp only at hnx hnk ⊢;unfold inW fF;refine zJ func52 ntmps52 results52 ?_;simp only[go_sem];refine zW qs zn @hle (z1 ?_)
 all_goals try exact zk3
 refine Xb [0,3,4,5] [(6,I z),(7,I ze)] [.cells (wC (cw w) 1),.rows 7 (w.done.map ATxn.row),.cells [I kind,I (cl:Int),I server,I rq.op,I rq.session,S rq.path,S rq.data,I rq.version,I rq.flags,I lost,I slow,I keep,B watch],.cells [I 0,I 0,S [],S [],I 0,I 0,I 0,I 0,I 0,I 0,I 0,.d (.sc (.slice none 0 0))],.cells [I rq.op,I ((cl:Int)+1),S rq.path,S rq.data,I rq.version,I rq.flags]] ?_ ?_
 ·refine zW qw (z2 tD hnx) @hle (z1 ?_)
  all_goals try exact zk1
  all_goals exact zFr [0,1,2,3,4] Yj
 simp only[go_sem]
 by_cases hz:ze=0
 case neg=>
  rw[RJ hz];refine zW qs zn Yj (z1 (fun hc=>?_))
  all_goals try exact zk3
  all_goals(refine zOp Yj ?_;simp(disch:=omega) only[go_sem,aa];exact Xg (r:=noR ze) (rfl) rfl rfl rfl)
 subst hz;rw[RI (fun h=>h rfl)];have hpr:=CA (w.s li).tree z ⟨rq.op,(cl:Int)+1,rq.path,rq.data,rq.version,rq.flags⟩ hgl.gs.t ⟨hrq.1,(by show okI ((cl:Int)+1);unfold okI;omega),hrq.2.2.1,hrq.2.2.2.1,hrq.2.2.2.2.1,hrq.2.2.2.2.2⟩ hdp hnk;have hpk:=@td (w.s li).tree z ⟨rq.op,(cl:Int)+1,rq.path,rq.data,rq.version,rq.flags⟩;generalize bA (w.s li).tree z ⟨rq.op,(cl:Int)+1,rq.path,rq.data,rq.version,rq.flags⟩=p at hpr hpk ⊢;obtain⟨x,pe⟩:=p;simp only at hpr hpk ⊢;refine zW qs zn Yj (z1 (fun hc=>?_))
 all_goals try exact zk3
 refine Xb [0,3,4,6] [(8,.ptr 5 0),(7,I pe)] [.cells (wC (cw w) 1),.rows 7 (w.done.map ATxn.row),.cells [I kind,I (cl:Int),I server,I rq.op,I rq.session,S rq.path,S rq.data,I rq.version,I rq.flags,I lost,I slow,I keep,B watch],.cells [I 0,I 0,S [],S [],I 0,I 0,I 0,I 0,I 0,I 0,I 0,.d (.sc (.slice none 0 0))],.cells [I rq.op,I ((cl:Int)+1),S rq.path,S rq.data,I rq.version,I rq.flags],.cells [I x.zxid,I x.op,I x.session,S x.path,S x.data,I x.version,I x.owner]] ?_ ?_
 ·refine zW qw (z2 tD hpr) @hle (zc ?_ (zc ?_ (zc ?_ (zc ?_ (zc ?_ (zc ?_ (zc ?_ (zc ?_ (z4 ?_ ?_ ?_ ?_)))))))))
  all_goals try exact zk1
  all_goals exact zFr [0,1,2,3,4,5] Yj
 simp only[go_sem]
 by_cases hz:pe=0
 case neg=>
  rw[RJ hz];refine zW qs zn Yj (z1 (fun hc=>?_))
  all_goals try exact zk3
  all_goals(refine zOp Yj ?_;simp(disch:=omega) only[go_sem,aa];exact Xg (r:=noR pe) (rfl) rfl rfl rfl)
 subst hz;rw[RI (fun h=>h rfl)];obtain⟨hxz,hxa⟩:=hpk rfl;obtain⟨hxw,hxp⟩:=Cr (yI hxa).1;clear hpk hpr hnx;rw[←hle];subst hxz;generalize hF:bU x w.leader lost slow [0,1,2] w []=F;refine zW qs zn Yj (z1 (fun hc=>?_))
 all_goals try exact zk3
 refine Xa (Xf 9 1 rfl) ?_;simp only[go_sem];refine W9 (ι:=Nat×AWorld×List Nat) (fun v=>Yb w x lost slow F v) (fun v=>3-v.1) [0,3,4,6,8] (fun v=>[(67,I v.1),(9,.osl 6 1 0 v.2.2.length)]) (fun v=>[.cells (wC (cw v.2.1) 1),.rows 7 (w.done.map ATxn.row),.cells [I kind,I (cl:Int),I server,I rq.op,I rq.session,S rq.path,S rq.data,I rq.version,I rq.flags,I lost,I slow,I keep,B watch],.cells [I 0,I 0,S [],S [],I 0,I 0,I 0,I 0,I 0,I 0,I 0,.d (.sc (.slice none 0 0))],.cells [I rq.op,I ((cl:Int)+1),S rq.path,S rq.data,I rq.version,I rq.flags],.cells [I x.zxid,I x.op,I x.session,S x.path,S x.data,I x.version,I x.owner],.rows 1 (v.2.2.map gO)]) (0,w,[]) ?_ ?_ ?_
 ·exact⟨RX _,hF,⟨e1,e2,e3⟩,fun i _ _=>rfl,fun i _ _=>rfl,rfl,rfl,rfl,hs,RP _,fun i h=>by cases h⟩
 ·simp only[go_sem];exact zFr [0,1,2,3,4,5,6] Yj
 intro v hv;simp only[go_sem];have hvk:=hv.k;have hvld:=hv.ld;obtain⟨hh1,hh2⟩:=hv.h
 by_cases hk4:v.1<3
 ·have hs0:=hv.s v.1 (RP _) hk4
  have hwu:=xM (n:=v.1) (by omega)
  by_cases hf:v.2.1.f v.1=false
  ·have hsk:=hv.skip hk4 hf
   cases hdb:decide ((v.1:Int)=w.leader)
   all_goals(
    (refine zW qs zn (zx @hvld (zx @hdb (zx @hwu @hf))) (z1 ?_)<;>(repeat with_reducible intro hc))
    all_goals try exact zk3
    all_goals refine⟨(v.1+1,v.2),hsk,by simp only;omega,?_⟩
    all_goals exact zFr [0,1,2,3,4,5,6] Yj)
  have hft:v.2.1.f v.1=true:=by simpa using hf
  have hbe:=Oy lost v.1;have hse:=Oy slow v.1
  by_cases hb:¬ w.leader=(v.1:Int)∧oM lost v.1=true
  ·have hls:=hv.gone hk4 hf hb
   have k1:=QF hv.l.fl hk4;have hlf:decide ((v.1:Int)=w.leader)=false:=R0 (fun h=>hb.1 h.symm);have hbl:=hb.2;refine zW qs zn (zx @hvld (zx @hlf (zx @hwu (zx @hft (zx @hbe @hbl))))) (z1 (fun hc hc hc=>?_))
   all_goals try exact zk3
   all_goals refine⟨(v.1+1,v.2.1.setF v.1 false,v.2.2),hls,by simp only;omega,?_⟩
   all_goals exact zFr [0,1,2,3,4,5,6] @k1
  generalize hsf:(decide (w.leader=(v.1:Int))||!oM slow v.1)=sf;have hsf2:(bif decide ((v.1:Int)=w.leader) then true else !oM slow v.1)=sf:=by rw[←hsf,show decide ((v.1:Int)=w.leader)=decide (w.leader=(v.1:Int)) from Wl.2 ⟨Eq.symm,Eq.symm⟩];cases decide (w.leader=(v.1:Int))<;>rfl
  have hgk:=hs v.1 hk4;have hnk4:=hn v.1 hk4;have htk:=oI (w.s v.1) x sf hgk.gs.w hxw (by omega) (by omega);have hst:=hv.stop hk4 hf hb hsf;have hnx:=fun a=>hv.next hk4 hf hb hsf a hxw (by omega) (by omega)
  generalize bg (w.s v.1) x sf=tk at htk hst hnx;obtain⟨t1,te⟩:=tk;simp only at htk hst hnx
  have hbl:decide ((v.1:Int)=w.leader)=false→oM lost v.1=false:=fun hd=>by
   by_cases hq:oM lost v.1=true
   ·exact absurd ⟨fun h=>by rw[decide_eq_true h.symm] at hd;exact absurd hd (by decide),hq⟩ hb
   ·simpa using hq
  have k2:=wo hv.l.sl hk4 (x:=t1);cases hdb:decide ((v.1:Int)=w.leader)
  ·have hbl:=hbl hdb
   rw[hdb] at hsf2;simp only[U0] at hsf2;have hns:(!sf)=oM slow v.1:=by rw[←hsf2,Vq]
   refine zW qs zn (zx @hvld (zx @hdb (zx @hwu (zx @hft (zx @hbe (zx @hse (zx @hbl @Vq))))))) (z1 (fun hc hc hc=>?_))
   all_goals try exact zk3
   all_goals(
    refine Xb [0,3,4,6,8,9,10,67] [(12,B (!sf)),(13,.ptr 7 0),(14,I te)] [.cells (wC (cw v.2.1) 1),.rows 7 (w.done.map ATxn.row),.cells [I kind,I (cl:Int),I server,I rq.op,I rq.session,S rq.path,S rq.data,I rq.version,I rq.flags,I lost,I slow,I keep,B watch],.cells [I 0,I 0,S [],S [],I 0,I 0,I 0,I 0,I 0,I 0,I 0,.d (.sc (.slice none 0 0))],.cells [I rq.op,I ((cl:Int)+1),S rq.path,S rq.data,I rq.version,I rq.flags],.cells [I x.zxid,I x.op,I x.session,S x.path,S x.data,I x.version,I x.owner],.rows 1 (v.2.2.map gO),.cells [B t1.up,.d (.sl 3 (t1.disk.files.map AFile.row)),I t1.peer.id,I t1.peer.epoch,.d (.sl 7 (t1.peer.log.map ATxn.row)),I t1.peer.done,I t1.tree.zxid,.d (.sl 9 (t1.tree.nodes.map XU.row)),.d (.sl 1 (t1.tree.sessions.map aY)),.d (.sl 3 (t1.watches.map AWatch.row))]] ?_ ?_
    ·refine zW qw (z2 tD htk) (zx @hs0 (zx @Vq @Vm)) (zc ?_ (zc ?_ (zc ?_ (z4 ?_ ?_ ?_ ?_))))
     all_goals try exact zk1
     all_goals(refine zV [0,1,2,3,4,5,6,7] rfl rfl rfl rfl ?_ ?_<;>simp(disch:=omega) only[go_sem,aa,Ss,Vq,Vm]<;>(try rfl))
     all_goals first|exact congrArg (fun b=>AV.d (DV.bool b)) hsf2.symm|exact congrArg (fun b=>AV.d (DV.bool b)) hns|exact congrArg (fun b=>AV.d (DV.bool b)) hns.symm
    simp only[go_sem]
    by_cases hte:te=0
    case neg=>
     have hF2:=hst hte;subst hF2;simp only[ne_eq,hte,R5,S9];refine zW qs zn Yj (z1 (fun hc=>?_))
     all_goals try exact zk3
     all_goals(refine zOp @SI ?_;simp(disch:=omega) only[go_sem,aa,SI];exact Xg (r:=noR te) (rfl) rfl rfl (by rw[hv.d];rfl))
    subst hte;refine zW qs zn Yj (z1 (fun hc=>?_))
    all_goals try exact zk3
    refine Xb [0,3,4,6,8,9,10,12,67] [] [.cells (wC (cw (v.2.1.setS v.1 t1)) 1),.rows 7 (w.done.map ATxn.row),.cells [I kind,I (cl:Int),I server,I rq.op,I rq.session,S rq.path,S rq.data,I rq.version,I rq.flags,I lost,I slow,I keep,B watch],.cells [I 0,I 0,S [],S [],I 0,I 0,I 0,I 0,I 0,I 0,I 0,.d (.sc (.slice none 0 0))],.cells [I rq.op,I ((cl:Int)+1),S rq.path,S rq.data,I rq.version,I rq.flags],.cells [I x.zxid,I x.op,I x.session,S x.path,S x.data,I x.version,I x.owner],.rows 1 (v.2.2.map gO)] ?_ ?_
    ·refine zW qw (z1 tD) Yj (z1 ?_)
     all_goals try exact zk1
     all_goals exact zFr [0,1,2,3,4,5,6] @k2
    simp only[go_sem];have hnx:=hnx (fun h=>h rfl);clear hsf hsf2 hns;cases sf
    ·refine zW qs zn Yj (z1 (fun hc=>?_))
     all_goals try exact zk3
     refine⟨(v.1+1,v.2.1.setS v.1 t1,v.2.2),hnx,by simp only;omega,?_⟩;exact zFr [0,1,2,3,4,5,6] Yj
    ·refine zW qs zn Yj (z1 (fun hc=>?_))
     all_goals try exact zk3
     refine⟨(v.1+1,v.2.1.setS v.1 t1,v.2.2++[v.1]),hnx,by simp only;omega,?_⟩;exact zFr [0,1,2,3,4,5,8] (zx @List.map_append.{0,0} (zx @List.map_cons.{0,0} (zx @List.map_nil.{0,0} (zx @gO.eq_1 (zx @List.length_append.{0} (zx @List.length_cons.{0} @List.length_nil.{0}))))))
    )
  ·rw[hdb] at hsf2
   simp only[Vx] at hsf2;have hns:(!sf)=false:=by rw[←hsf2];rfl
   refine zW qs zn (zx @hvld (zx @hdb (zx @hwu @hft))) (z1 (fun hc hc hc=>?_))
   all_goals try exact zk3
   all_goals(
    refine Xb [0,3,4,6,8,9,10,67] [(12,B (!sf)),(13,.ptr 7 0),(14,I te)] [.cells (wC (cw v.2.1) 1),.rows 7 (w.done.map ATxn.row),.cells [I kind,I (cl:Int),I server,I rq.op,I rq.session,S rq.path,S rq.data,I rq.version,I rq.flags,I lost,I slow,I keep,B watch],.cells [I 0,I 0,S [],S [],I 0,I 0,I 0,I 0,I 0,I 0,I 0,.d (.sc (.slice none 0 0))],.cells [I rq.op,I ((cl:Int)+1),S rq.path,S rq.data,I rq.version,I rq.flags],.cells [I x.zxid,I x.op,I x.session,S x.path,S x.data,I x.version,I x.owner],.rows 1 (v.2.2.map gO),.cells [B t1.up,.d (.sl 3 (t1.disk.files.map AFile.row)),I t1.peer.id,I t1.peer.epoch,.d (.sl 7 (t1.peer.log.map ATxn.row)),I t1.peer.done,I t1.tree.zxid,.d (.sl 9 (t1.tree.nodes.map XU.row)),.d (.sl 1 (t1.tree.sessions.map aY)),.d (.sl 3 (t1.watches.map AWatch.row))]] ?_ ?_
    ·refine zW qw (z2 tD htk) (zx @hs0 (zx @Vq @Vm)) (zc ?_ (zc ?_ (zc ?_ (z4 ?_ ?_ ?_ ?_))))
     all_goals try exact zk1
     all_goals(refine zV [0,1,2,3,4,5,6,7] rfl rfl rfl rfl ?_ ?_<;>simp(disch:=omega) only[go_sem,aa,Ss,Vq,Vm]<;>(try rfl))
     all_goals first|exact congrArg (fun b=>AV.d (DV.bool b)) hsf2.symm|exact congrArg (fun b=>AV.d (DV.bool b)) hns|exact congrArg (fun b=>AV.d (DV.bool b)) hns.symm
    simp only[go_sem]
    by_cases hte:te=0
    case neg=>
     have hF2:=hst hte;subst hF2;simp only[ne_eq,hte,R5,S9];refine zW qs zn Yj (z1 (fun hc=>?_))
     all_goals try exact zk3
     all_goals(refine zOp @SI ?_;simp(disch:=omega) only[go_sem,aa,SI];exact Xg (r:=noR te) (rfl) rfl rfl (by rw[hv.d];rfl))
    subst hte;refine zW qs zn Yj (z1 (fun hc=>?_))
    all_goals try exact zk3
    refine Xb [0,3,4,6,8,9,10,12,67] [] [.cells (wC (cw (v.2.1.setS v.1 t1)) 1),.rows 7 (w.done.map ATxn.row),.cells [I kind,I (cl:Int),I server,I rq.op,I rq.session,S rq.path,S rq.data,I rq.version,I rq.flags,I lost,I slow,I keep,B watch],.cells [I 0,I 0,S [],S [],I 0,I 0,I 0,I 0,I 0,I 0,I 0,.d (.sc (.slice none 0 0))],.cells [I rq.op,I ((cl:Int)+1),S rq.path,S rq.data,I rq.version,I rq.flags],.cells [I x.zxid,I x.op,I x.session,S x.path,S x.data,I x.version,I x.owner],.rows 1 (v.2.2.map gO)] ?_ ?_
    ·refine zW qw (z1 tD) Yj (z1 ?_)
     all_goals try exact zk1
     all_goals exact zFr [0,1,2,3,4,5,6] @k2
    simp only[go_sem];have hnx:=hnx (fun h=>h rfl);clear hsf hsf2 hns;cases sf
    ·refine zW qs zn Yj (z1 (fun hc=>?_))
     all_goals try exact zk3
     refine⟨(v.1+1,v.2.1.setS v.1 t1,v.2.2),hnx,by simp only;omega,?_⟩;exact zFr [0,1,2,3,4,5,6] Yj
    ·refine zW qs zn Yj (z1 (fun hc=>?_))
     all_goals try exact zk3
     refine⟨(v.1+1,v.2.1.setS v.1 t1,v.2.2++[v.1]),hnx,by simp only;omega,?_⟩;exact zFr [0,1,2,3,4,5,8] (zx @List.map_append.{0,0} (zx @List.map_cons.{0,0} (zx @List.map_nil.{0,0} (zx @gO.eq_1 (zx @List.length_append.{0} (zx @List.length_cons.{0} @List.length_nil.{0}))))))
    )
 have hF2:=hv.end hk4;subst hF2;simp only[ne_eq,Tp,Tj]
 by_cases hlt:v.2.2.length<2
 ·rw[RJ hlt]
  refine zW qs zn Yj (z1 (fun hc hc=>?_))
  all_goals try exact zk3
  all_goals(refine zOp @SI ?_;simp(disch:=omega) only[go_sem,aa,SI];exact Xg (r:=⟨16,x.zxid,[],[],default,[]⟩) (iW _) rfl rfl (by show _=some (ABlk.rows 7 (v.2.1.done.map ATxn.row));rw[hv.d];rfl))
 rw[RI hlt];have hnt:((v.2.2.map gO).drop 0).take v.2.2.length=v.2.2.map gO:=by rw[Tw];exact RK (by simp)
 refine Xa (Xs 9 6 (fun j hj=>⟨by omega,by rcases j with _|_|j<;>first|exact⟨_,rfl,by simp⟩|omega⟩) rfl rfl (by simp)) ?_;simp only[go_sem,hnt];have hl1:=hv.l;have hs1:=hv.sg;have hd1:=hv.d;have hc1:=hv.c;clear hn hgl hs;generalize v.2.1=w1 at hl1 hs1 hd1 hc1 hvld ⊢;generalize v.2.2=L at hh1 hh2 hlt hnt ⊢;unfold EQ;simp only;generalize hF2:bj L w1 []=F2;refine zW qs zn Yj (z1 (fun hc hc=>?_))
 all_goals try exact zk3
 refine Xa (Xf 15 3 rfl) ?_;simp only[go_sem];refine W9 (ι:=Nat×AWorld×List XX) (fun u=>CmInv w1 L F2 u) (fun u=>L.length-u.1) [0,3,4,6,8,164,165] (fun u=>[(166,I u.1),(15,.osl 6 3 0 u.2.2.length)]) (fun u=>[.cells (wC (cw u.2.1) 1),.rows 7 (w.done.map ATxn.row),.cells [I kind,I (cl:Int),I server,I rq.op,I rq.session,S rq.path,S rq.data,I rq.version,I rq.flags,I lost,I slow,I keep,B watch],.cells [I 0,I 0,S [],S [],I 0,I 0,I 0,I 0,I 0,I 0,I 0,.d (.sc (.slice none 0 0))],.cells [I rq.op,I ((cl:Int)+1),S rq.path,S rq.data,I rq.version,I rq.flags],.cells [I x.zxid,I x.op,I x.session,S x.path,S x.data,I x.version,I x.owner],.rows 3 (u.2.2.map XX.row)]) (0,w1,[]) ?_ ?_ ?_
 ·exact⟨RX _,hF2,hl1,hs1,rfl,RP _,rfl,rfl⟩
 ·simp only[go_sem];exact zFr [0,1,2,3,4,5,7] Yj
 intro u hi;simp only[go_sem];have huk:=hi.k;have hun:=hi.n
 by_cases hk5:u.1<L.length
 ·have hrow:∀ z,List.getD (L.map gO) u.1 z=gO (L.getD u.1 default):=fun z=>bO gO L u.1 z hk5
  have hj3:=hh2 _ (aZ L u.1 hk5);have hst:=@CmInv.stop _ _ _ _ hi hk5;have hnx:=@CmInv.next _ _ _ _ hi hk5;generalize L.getD u.1 default=j at hrow hj3 hst hnx;have hg:=hi.s j hj3;have hlj:=hg.gs.w.2.2.1.2.2.1.1;have hco:=pi (u.2.1.s j) (u.2.1.s j).peer.log.length hg.gs.w hg.gs.t hg.gs.p;have hst:=@hst j rfl;have hnx:=@hnx j rfl hj3;have hcf:=eX (u.2.1.s j) (u.2.1.s j).peer.log.length;have hg4:=hg.v;generalize au (u.2.1.s j) (u.2.1.s j).peer.log.length=co at hco hst hnx hcf;obtain⟨c1,cn,ce⟩:=co;simp only at hco hst hnx hcf;have k1:=wo hi.l.sl hj3 (x:=c1);refine zW qs zn (zx @hrow @gO.eq_1) (z1 (fun hc=>?_))
  all_goals try exact zk3
  refine Xb [0,3,4,6,8,15,17,164,165,166] [(18,.ptr 7 0),(19,.d (.sl 3 (cn.map XX.row))),(20,I ce)] [.cells (wC (cw u.2.1) 1),.rows 7 (w.done.map ATxn.row),.cells [I kind,I (cl:Int),I server,I rq.op,I rq.session,S rq.path,S rq.data,I rq.version,I rq.flags,I lost,I slow,I keep,B watch],.cells [I 0,I 0,S [],S [],I 0,I 0,I 0,I 0,I 0,I 0,I 0,.d (.sc (.slice none 0 0))],.cells [I rq.op,I ((cl:Int)+1),S rq.path,S rq.data,I rq.version,I rq.flags],.cells [I x.zxid,I x.op,I x.session,S x.path,S x.data,I x.version,I x.owner],.rows 3 (u.2.2.map XX.row),.cells [B c1.up,.d (.sl 3 (c1.disk.files.map AFile.row)),I c1.peer.id,I c1.peer.epoch,.d (.sl 7 (c1.peer.log.map ATxn.row)),I c1.peer.done,I c1.tree.zxid,.d (.sl 9 (c1.tree.nodes.map XU.row)),.d (.sl 1 (c1.tree.sessions.map aY)),.d (.sl 3 (c1.watches.map AWatch.row))]] ?_ ?_
  ·refine zW qw (z2 tD hco) Yj (zc ?_ (zc ?_ (zc ?_ (z4 ?_ ?_ ?_ ?_))))
   all_goals try exact zk1
   all_goals exact zFr [0,1,2,3,4,5,6,7] Yj
  simp only[go_sem]
  by_cases hce:ce=0
  case neg=>
   have hF3:=hst hce;subst hF3;simp only[ne_eq,hce,R5,S9];refine zW qs zn Yj (z1 (fun hc=>?_))
   all_goals try exact zk3
   all_goals(refine zOp @SI ?_;simp(disch:=omega) only[go_sem,aa,SI];exact Xg (r:=noR ce) (rfl) rfl rfl (by show _=some (ABlk.rows 7 (u.2.1.done.map ATxn.row));rw[hi.d,hd1];rfl))
  subst hce;refine zW qs zn Yj (z1 (fun hc=>?_))
  all_goals try exact zk3
  refine Xb [0,3,4,6,8,15,19,164,165,166] [] [.cells (wC (cw (u.2.1.setS j c1)) 1),.rows 7 (w.done.map ATxn.row),.cells [I kind,I (cl:Int),I server,I rq.op,I rq.session,S rq.path,S rq.data,I rq.version,I rq.flags,I lost,I slow,I keep,B watch],.cells [I 0,I 0,S [],S [],I 0,I 0,I 0,I 0,I 0,I 0,I 0,.d (.sc (.slice none 0 0))],.cells [I rq.op,I ((cl:Int)+1),S rq.path,S rq.data,I rq.version,I rq.flags],.cells [I x.zxid,I x.op,I x.session,S x.path,S x.data,I x.version,I x.owner],.rows 3 (u.2.2.map XX.row)] ?_ ?_
  ·refine zW qw (z1 tD) Yj (z1 ?_)
   all_goals try exact zk1
   all_goals exact zFr [0,1,2,3,4,5,6] @k1
  simp only[go_sem];refine zW qs zn Yj (z1 ?_)
  all_goals try exact zk3
  all_goals(refine⟨_,hnx (fun h=>h rfl),by simp only;omega,?_⟩;exact zFr [0,1,2,3,4,5,7] (zx @List.map_append.{0,0} @List.length_append.{0}))
 have hF3:=hi.end hk5;subst hF3;simp only[ne_eq,Tp,Tj];have hdn1:u.2.1.done=w.done:=hi.d.trans hd1;have hcu0:u.2.1.cl=w.cl:=hi.c.trans hc1;have hlu0:u.2.1.leader=w.leader:=hi.ld.trans hvld;have hnt2:((u.2.2.map XX.row).drop 0).take u.2.2.length=u.2.2.map XX.row:=by rw[Tw];exact RK (by simp)
 refine Xa (Xs 15 6 (fun j hj=>⟨by omega,by rcases j with _|_|j<;>first|exact⟨_,rfl,by simp⟩|omega⟩) rfl rfl (by simp)) ?_;simp only[go_sem,hnt2];have htl:=Ek ((cw u.2.1).setN (w.done.length+1)) (w.done.map ATxn.row++[[.int .i64 x.zxid,.int .i64 x.op,.int .i64 x.session,.str x.path,.str x.data,.int .i64 x.version,.int .i64 x.owner]]) u.2.2 (fun i hi2=>by have:=hc16 i hi2;show(u.2.1.cl.getD i default).cache.length≤_∧aF ((u.2.1.cl.getD i default).cache.map _);rw[hcu0];exact this) (by omega);have htd:((cw u.2.1).setN (w.done.length+1)).told u.2.2 16=cw (dk { u.2.1 with done:=u.2.1.done++[x] } u.2.2):=by rw[show((cw u.2.1).setN (w.done.length+1))=cw { u.2.1 with done:=u.2.1.done++[x] } from by rw[←hdn1];exact Fp u.2.1 x];exact sW (w:={ u.2.1 with done:=u.2.1.done++[x] }) hi.l.cl u.2.2
 have hud:(dk { u.2.1 with done:=u.2.1.done++[x] } u.2.2).done=w.done++[x]:=by show u.2.1.done++[x]=_;rw[hdn1]
 have hul:(dk { u.2.1 with done:=u.2.1.done++[x] } u.2.2).leader=w.leader:=hlu0;have hus:∀ i,i<3→SG ((dk { u.2.1 with done:=u.2.1.done++[x] } u.2.2).s i):=hi.s;have huc:(dk { u.2.1 with done:=u.2.1.done++[x] } u.2.2).cl.length=16:=by show(u.2.1.cl.map _).length=16;rw[RO,hi.l.cl]
 generalize dk { u.2.1 with done:=u.2.1.done++[x] } u.2.2=y at htd hud hul hus huc ⊢;have hyl:y.leader=(li:Int):=by rw[hul,hle]
 have hgl:=hus _ hli;have hgt:=ir (y.s li).tree x.path hgl.gs.t.1.2.1.1 (aE hgl.g);rw[hyl];simp only[Ta];generalize aw (y.s li).tree x.path=gq at hgt ⊢;obtain⟨gn,ge⟩:=gq;simp only at hgt ⊢;have k3:=FD huc hcl (x:=⟨(y.c cl).session,x.zxid,(y.c cl).cache⟩);have hle2:(y.setC cl ⟨(y.c cl).session,x.zxid,(y.c cl).cache⟩).leader=(li:Int):=hyl;have hle3:(y.setC cl ⟨(y.c cl).session,x.zxid,(y.c cl).cache⟩).s=y.s:=rfl;refine zW qs zn @hdn1 (z1 (fun hc=>?_))
 all_goals try exact zk3
 refine Xb [0,3,4,6,8] [(15,.d (.sl 3 (u.2.2.map XX.row)))] [.cells (wC ((cw u.2.1).setN (w.done.length+1)) 6),.dead,.cells [I kind,I (cl:Int),I server,I rq.op,I rq.session,S rq.path,S rq.data,I rq.version,I rq.flags,I lost,I slow,I keep,B watch],.cells [I 0,I 0,S [],S [],I 0,I 0,I 0,I 0,I 0,I 0,I 0,.d (.sc (.slice none 0 0))],.cells [I rq.op,I ((cl:Int)+1),S rq.path,S rq.data,I rq.version,I rq.flags],.cells [I x.zxid,I x.op,I x.session,S x.path,S x.data,I x.version,I x.owner],.rows 7 (w.done.map ATxn.row++[[.int .i64 x.zxid,.int .i64 x.op,.int .i64 x.session,.str x.path,.str x.data,.int .i64 x.version,.int .i64 x.owner]])] ?_ ?_
 ·refine zW qw (z1 tD) @hdn1 (z2 ?_ ?_)
  all_goals try exact zk1
  all_goals exact zFr [0,1,2,3,4,5,8] Yj
 simp only[go_sem];refine zW qs (z1 (ac [0,6] htl)) @htd (z1 ?_)
 all_goals try exact zk3
 refine Xb [0,3,4,6,8,15] [] [.cells (wC (cw (y.setC cl ⟨(y.c cl).session,x.zxid,(y.c cl).cache⟩)) 6),.dead,.cells [I kind,I (cl:Int),I server,I rq.op,I rq.session,S rq.path,S rq.data,I rq.version,I rq.flags,I lost,I slow,I keep,B watch],.cells [I 0,I 0,S [],S [],I 0,I 0,I 0,I 0,I 0,I 0,I 0,.d (.sc (.slice none 0 0))],.cells [I rq.op,I ((cl:Int)+1),S rq.path,S rq.data,I rq.version,I rq.flags],.cells [I x.zxid,I x.op,I x.session,S x.path,S x.data,I x.version,I x.owner],.rows 7 (w.done.map ATxn.row++[[.int .i64 x.zxid,.int .i64 x.op,.int .i64 x.session,.str x.path,.str x.data,.int .i64 x.version,.int .i64 x.owner]])] ?_ ?_
 ·refine zW qw (z1 tD) Yj (z1 ?_)
  all_goals try exact zk1
  all_goals exact zFr [0,1,2,3,4,5,6] @k3
 simp only[go_sem];refine zW qs zn Yj (z1 ?_);refine Xb [0,3,4,6,8,15] [(21,.ptr 7 0)] [.cells (wC (cw (y.setC cl ⟨(y.c cl).session,x.zxid,(y.c cl).cache⟩)) 6),.dead,.cells [I kind,I (cl:Int),I server,I rq.op,I rq.session,S rq.path,S rq.data,I rq.version,I rq.flags,I lost,I slow,I keep,B watch],.cells [I 0,I 0,S [],S [],I 0,I 0,I 0,I 0,I 0,I 0,I 0,.d (.sc (.slice none 0 0))],.cells [I rq.op,I ((cl:Int)+1),S rq.path,S rq.data,I rq.version,I rq.flags],.cells [I x.zxid,I x.op,I x.session,S x.path,S x.data,I x.version,I x.owner],.rows 7 (w.done.map ATxn.row++[[.int .i64 x.zxid,.int .i64 x.op,.int .i64 x.session,.str x.path,.str x.data,.int .i64 x.version,.int .i64 x.owner]]),.cells [S gn.path,S gn.data,I gn.stat.czxid,I gn.stat.mzxid,I gn.stat.pzxid,I gn.stat.version,I gn.stat.cversion,I gn.stat.owner,I gn.stat.kids]] ?_ ?_
 ·refine zW qw (z2 tD hgt) (zx @hle2 @hle3) (zc ?_ (zc ?_ (zc ?_ (zc ?_ (zc ?_ (zc ?_ (zc ?_ (zc ?_ (z4 ?_ ?_ ?_ ?_)))))))))
  all_goals try exact zk1
  all_goals exact zFr [0,1,2,3,4,5,6,7] Yj
 simp only[go_sem];refine zW qw zn Yj (z1 ?_);refine zOp Yj ?_;simp(disch:=omega) only[go_sem,aa];exact Xy 6 (r:=⟨0,x.zxid,x.path,[],gn.stat,u.2.2⟩) rfl rfl (by rw[show(y.setC cl ⟨(y.c cl).session,x.zxid,(y.c cl).cache⟩).done=w.done++[x] from hud,Sn];rfl) (by decide)
theorem DO:Pls [XS [0,1,3,4,7] (.forks 2 (XS [5] (.forks 6 (.fork 8 (.fork 9 (XS [10,11,12,13,14,15] .done) 13 (XS [9,10,11,12,14,15] .done)) 13 (XS [8,9,10,11,12,14,15] .done)) 8 (.fork 6 (.fork 9 (XS [10,11,12,13,14,15] .done) 13 (XS [9,10,11,12,14,15] .done)) 13 (XS [6,9,10,11,12,14,15] .done)) 13 (XS [6,8,9,10,11,12,14,15] .done))) 8 (.fork 2 (XS [5] (.fork 6 (.fork 9 (XS [10,11,12,13,14,15] .done) 13 (XS [9,10,11,12,14,15] .done)) 13 (XS [6,9,10,11,12,14,15] .done))) 13 (XS [2,5,6,9,10,11,12,14,15] .done)) 13 (XS [2,5,6,8,9,10,11,12,14,15] .done)),XS [0,1,2,3,4,5,6,7] .done,XS [0,1,2,3,4,5,6] .done,XS [0,2,3,5,6] (.forks 1 (.fork 4 (XS [7,8] (.fork 9 (.fork 10 (XS [11,12,13,14,15,16] .done) 14 (XS [10,11,12,13,15,16] .done)) 14 (XS [9,10,11,12,13,15,16] .done))) 14 (XS [4,7,8,9,10,11,12,13,15,16] .done)) 4 (XS [7,8] (.forks 1 (.fork 9 (.fork 10 (XS [11,12,13,14,15,16] .done) 14 (XS [10,11,12,13,15,16] .done)) 14 (XS [9,10,11,12,13,15,16] .done)) 9 (.fork 1 (.fork 10 (XS [11,12,13,14,15,16] .done) 14 (XS [10,11,12,13,15,16] .done)) 14 (XS [1,10,11,12,13,15,16] .done)) 14 (XS [1,9,10,11,12,13,15,16] .done))) 14 (XS [1,4,7,8,9,10,11,12,13,15,16] .done)),XS [0,1,2,3,4,5,6,7] .done]:=pls _
theorem mB(e:Int):ab prog [] 48 [I e] (ret (X2.av ⟨e,0,[],[],⟨0,0,0,0,0,0,0⟩,[]⟩)):=by refine zJ func48 ntmps48 results48 ?_;simp only[go_sem];refine zW qw zn Yj (z1 ?_);exact zEe Yj
theorem Xh{hp:List ABlk}{w:AWorld}{e:Int}{v:CW}{x:AV}(p:Nat)(hv:v=cw w)(h0:hp[0]?=some (.cells (wC v p)))(h1:hp[p]?=some (.rows 7 (w.done.map ATxn.row)))(hp0:p≠0)(hx:x=X2.av ⟨e,0,[],[],⟨0,0,0,0,0,0,0⟩,[]⟩) :
  af 2 hp x (fF w (noR e)):=by
 subst hx;exact Xt p hv h0 h1 hp0 (by simp[cp,cF,X2.av]) (iP _)
theorem Xv{hp:List ABlk}{w:AWorld}{r:X2}{v:CW}{x:AV}(p:Nat)(hv:v=cw w)(h0:hp[0]?=some (.cells (wC v p)))(h1:hp[p]?=some (.rows 7 (w.done.map ATxn.row)))(hp0:p≠0)(hx:x=r.av) :
  af 2 hp x (fF w r):=by
 subst hx;exact Xt p hv h0 h1 hp0 (by simp[cp,cF,X2.av]) (iP _)
theorem Rs(w:AWorld)(d:X1)(n:Nat)(h:dO w n)(hn:n<1000)(h0:0≤w.deeds)(h30:w.deeds≤300)(hdw:d.wf)(hdp:d.request.path.length≤1048576):ab prog (inW w) 15 [.ptr 0 0,d.av] (fF (doW w d).1 (doW w d).2):=by
 unfold doW
 by_cases h3:300≤w.deeds
 ·rw[RJ h3]
  unfold inW fF;refine zJ func15 ntmps15 results15 ?_;simp only[go_sem]
  (refine zW qw (z1 (mB 6)) Yj (z1 ?_)<;>(repeat with_reducible intro hc))
  all_goals try exact zk2
  all_goals(
   refine zOp Yj ?_;simp(disch:=omega) only[go_sem,aa]
   exact Xh (e:=6) 1 rfl rfl rfl (by decide) rfl)
 rw[RI h3];have hde:w.deeds≠300:=by omega
 have h:=h.deed (w.deeds+1);have hwr:=fun h1 h2=>JV { w with deeds:=w.deeds+1 } d (h.wr hn) hdw hdp h1 h2
 have hwe:dy { w with deeds:=w.deeds+1 } d=oX { w with deeds:=w.deeds+1 } d:=h.1.elim fun g hg=>hg.elim fun es hes=>hes.elim fun K h1=>F0 h1 hn d
 have hrd:=Mu { w with deeds:=w.deeds+1 } d (h.rd hn) hdw hdp;have hel:=Kw { w with deeds:=w.deeds+1 } (h.el hn);have hsv:=fun i (hi:i<3)=>(h.server hn hi).1
 have k1:(cw w).setD (w.deeds+1)=cw { w with deeds:=w.deeds+1 }:=rfl;have k2:w.done=({ w with deeds:=w.deeds+1 }:AWorld).done:=rfl;obtain⟨e1,e2,e3⟩:=h.wl;generalize ({ w with deeds:=w.deeds+1 }:AWorld)=w' at hwr hwe hrd hel hsv k1 k2 e1 e2 e3 ⊢;clear h;unfold qD
 by_cases q1:d.kind=1
 ·rw[RJ q1]
  by_cases c1:d.client<0∨16≤d.client
  ·unfold dy
   rw[RJ c1];unfold inW fF;refine zJ func15 ntmps15 results15 ?_;simp only[go_sem]
   (refine zW qw (z1 (mB 3)) (zx @k1 (zx @k2 (zx @q1 @hde))) (z1 ?_)<;>(repeat with_reducible intro hc))
   all_goals try exact zk2
   all_goals(
    refine zOp Yj ?_;simp(disch:=omega) only[go_sem,aa]
    exact Xh (e:=3) 1 rfl rfl rfl (by decide) rfl)
  by_cases c2:w'.leader<0
  ·unfold dy
   rw[RI c1,RJ c2];unfold inW fF;refine zJ func15 ntmps15 results15 ?_;simp only[go_sem]
   (refine zW qw (z1 (mB 14)) (zx @k1 (zx @k2 (zx @q1 @hde))) (z1 ?_)<;>(repeat with_reducible intro hc))
   all_goals try exact zk2
   all_goals(
    refine zOp Yj ?_;simp(disch:=omega) only[go_sem,aa]
    exact Xh (e:=14) 1 rfl rfl rfl (by decide) rfl)
  rw[hwe];have hwr:=hwr (by omega) (by omega);unfold inW fF at hwr;unfold inW fF;generalize oX w' d=R at hwr ⊢;obtain⟨u,r⟩:=R;simp only at hwr ⊢;refine zJ func15 ntmps15 results15 ?_;simp only[go_sem]
  (refine zW qw (z1 (ac [0,1] hwr)) (zx @k1 (zx @k2 (zx @q1 @hde))) (z1 ?_)<;>(repeat with_reducible intro hc))
  all_goals try exact zk2
  all_goals(
   refine zOp Yj ?_;simp(disch:=omega) only[go_sem,aa]
   exact Xv (r:=r) 4 rfl rfl rfl (by decide) rfl)
 rw[RI q1]
 by_cases q2:d.kind=2
 ·rw[RJ q2]
  by_cases c1:d.client<0∨16≤d.client∨d.server<0∨3≤d.server
  ·unfold ig
   rw[RJ c1];unfold inW fF;refine zJ func15 ntmps15 results15 ?_;simp only[go_sem]
   (refine zW qw (z1 (mB 3)) (zx @k1 (zx @k2 (zx @q2 @hde))) (z1 ?_)<;>(repeat with_reducible intro hc))
   all_goals try exact zk2
   all_goals(
    refine zOp Yj ?_;simp(disch:=omega) only[go_sem,aa]
    exact Xh (e:=3) 1 rfl rfl rfl (by decide) rfl)
  have hrd:=hrd (by omega);unfold inW fF at hrd;unfold inW fF;generalize ig w' d=R at hrd ⊢;obtain⟨u,r⟩:=R;simp only at hrd ⊢;refine zJ func15 ntmps15 results15 ?_;simp only[go_sem]
  (refine zW qw (z1 (ac [0,1] hrd)) (zx @k1 (zx @k2 (zx @q2 @hde))) (z1 ?_)<;>(repeat with_reducible intro hc))
  all_goals try exact zk2
  all_goals(
   refine zOp Yj ?_;simp(disch:=omega) only[go_sem,aa]
   exact Xv (r:=r) 4 rfl rfl rfl (by decide) rfl)
 rw[RI q2]
 by_cases q5:d.kind=5
 ·rw[RJ q5]
  unfold inW fF at hel;unfold inW fF;generalize dg w'=R at hel ⊢;obtain⟨u,r⟩:=R;simp only at hel ⊢;refine zJ func15 ntmps15 results15 ?_;simp only[go_sem]
  (refine zW qw (z1 (ac [0,1] hel)) (zx @k1 (zx @k2 (zx @q5 @hde))) (z1 ?_)<;>(repeat with_reducible intro hc))
  all_goals try exact zk2
  all_goals(
   refine zOp Yj ?_;simp(disch:=omega) only[go_sem,aa]
   exact Xv (r:=r) 4 rfl rfl rfl (by decide) rfl)
 rw[RI q5]
 by_cases q3:d.kind=3∨d.kind=4
 case neg=>
  rw[RI q3];unfold inW fF;refine zJ func15 ntmps15 results15 ?_;simp only[go_sem]
  (refine zW qw (z1 (mB 4)) (zx @k1 (zx @k2 @hde)) (z1 ?_)<;>(repeat with_reducible intro hc))
  all_goals try exact zk2
  all_goals(
   refine zOp Yj ?_;simp(disch:=omega) only[go_sem,aa]
   exact Xh (e:=4) 1 rfl rfl rfl (by decide) rfl)
 rw[RJ q3]
 by_cases hs:d.server<0∨3≤d.server
 ·rw[RJ hs]
  unfold inW fF;refine zJ func15 ntmps15 results15 ?_;simp only[go_sem]
  (refine zW qw (z1 (mB 3)) (zx @k1 (zx @k2 @hde)) (z2 ?_ ?_)<;>(repeat with_reducible intro hc))
  all_goals try exact zk2
  all_goals(
   refine zOp Yj ?_;simp(disch:=omega) only[go_sem,aa]
   exact Xh (e:=3) 1 rfl rfl rfl (by decide) rfl)
 rw[RI hs];obtain⟨kind,client,server,rq,lost,slow,keep,watch⟩:=d;simp only at q1 q2 q5 q3 hs hdw ⊢;obtain⟨i,rfl⟩:∃ i:Nat,server=(i:Int):=⟨server.toNat,by omega⟩;have hi:i<3:=by omega
 simp only[Ta];clear hwr hwe hrd hel;have hsi:=hsv i hi
 by_cases q4:kind=4
 ·subst q4
  rw[RJ rfl];have hct:=tj (i:Int) (w'.s i).disk hsi.2.1.1 hsi.2.1.2;unfold upW
  by_cases hu:(w'.s i).up=true
  ·rw[RJ hu]
   unfold inW fF;refine zJ func15 ntmps15 results15 ?_;simp only[go_sem]
   (refine zW qw (z2 DO (mB 8)) (zx @k1 (zx @k2 (zx @hde @hu))) (z1 ?_)<;>(repeat with_reducible intro hc))
   all_goals try exact zk2
   all_goals(
    refine zOp Yj ?_;simp(disch:=omega) only[go_sem,aa]
    exact Xh (e:=8) 1 rfl rfl rfl (by decide) rfl)
  rw[RI hu];have hu2:(w'.s i).up=false:=by simpa using hu
  generalize cK (i:Int) (w'.s i).disk.files=q at hct ⊢;obtain⟨x,e⟩:=q;simp only at hct ⊢
  by_cases he:e=0
  ·subst he
   rw[RI (fun h=>h rfl)];have k3:=wo e1 hi (x:=x);unfold inW fF;refine zJ func15 ntmps15 results15 ?_;simp only[go_sem]
   (refine zW qw (z3 DO hct (mB 0)) (zx @k1 (zx @k2 (zx @hde @hu2))) (zc ?_ (zc ?_ (zc ?_ (zc ?_ (zc ?_ (zc ?_ (zc ?_ (zc ?_ (z4 ?_ ?_ ?_ ?_)))))))))<;>(repeat with_reducible intro hc))
   all_goals try exact zk2
   all_goals(
    refine zOp Yj ?_;simp(disch:=omega) only[go_sem,aa]
    exact Xh (e:=0) 1 k3 rfl rfl (by decide) rfl)
  ·rw[RJ he]
   unfold inW fF;refine zJ func15 ntmps15 results15 ?_;simp only[go_sem]
   (refine zW qw (z3 DO hct (mB e)) (zx @k1 (zx @k2 (zx @hde @hu2))) (zc ?_ (zc ?_ (zc ?_ (zc ?_ (zc ?_ (zc ?_ (zc ?_ (zc ?_ (z4 ?_ ?_ ?_ ?_)))))))))<;>(repeat with_reducible intro hc))
   all_goals try exact zk2
   all_goals(
    refine zOp Yj ?_;simp(disch:=omega) only[go_sem,aa]
    exact Xh (e:=e) 1 rfl rfl rfl (by decide) rfl)
 obtain rfl:kind=3:=by omega
 rw[RI q4];have hct:=zr (w'.s i) keep hsi;unfold iv
 by_cases hu:(w'.s i).up=false
 ·rw[RJ hu]
  unfold inW fF;refine zJ func15 ntmps15 results15 ?_;simp only[go_sem]
  (refine zW qw (z2 DO (mB 14)) (zx @k1 (zx @k2 (zx @hde @hu))) (z1 ?_)<;>(repeat with_reducible intro hc))
  all_goals try exact zk2
  all_goals(
   refine zOp Yj ?_;simp(disch:=omega) only[go_sem,aa]
   exact Xh (e:=14) 1 rfl rfl rfl (by decide) rfl)
 rw[RI hu];have hu2:(w'.s i).up=true:=by simpa using hu
 generalize bR (w'.s i) keep=q at hct ⊢;obtain⟨x,e⟩:=q;simp only at hct ⊢
 by_cases he:e=0
 case neg=>
  rw[RJ he];unfold inW fF;refine zJ func15 ntmps15 results15 ?_;simp only[go_sem]
  (refine zW qw (z3 DO hct (mB e)) (zx @k1 (zx @k2 (zx @hde @hu2))) (zc ?_ (zc ?_ (zc ?_ (zc ?_ (zc ?_ (zc ?_ (zc ?_ (zc ?_ (z4 ?_ ?_ ?_ ?_)))))))))<;>(repeat with_reducible intro hc))
  all_goals try exact zk2
  all_goals(
   refine zOp Yj ?_;simp(disch:=omega) only[go_sem,aa]
   exact Xh (e:=e) 1 rfl rfl rfl (by decide) rfl)
 subst he;rw[RI (fun h=>h rfl)];have k3:=wo e1 hi (x:=x);have k4:=JI e2 hi x i false
 by_cases hl:w'.leader=(i:Int)
 ·rw[RJ hl]
  unfold inW fF;refine zJ func15 ntmps15 results15 ?_;simp only[go_sem]
  (refine zW qw (z2 DO hct) (zx @k1 (zx @k2 (zx @hde (zx @hu2 (zx @k3 (zx @k4 @hl)))))) (zc ?_ (zc ?_ (zc ?_ (zc ?_ (zc ?_ (zc ?_ (zc ?_ (zc ?_ (zc ?_ (zc ?_ (zc ?_ (zc ?_ (zc ?_ (zc ?_ (zc ?_ (zc ?_ (zc ?_ (zc ?_ (zc ?_ (zc ?_ (z4 ?_ ?_ ?_ ?_)))))))))))))))))))))<;>(repeat with_reducible intro hc))
  all_goals try exact zk2
  all_goals(
   refine zOp Yj ?_;simp(disch:=omega) only[go_sem,aa]
   exact Xg (r:=noR 0) (iW _) rfl rfl rfl)
 ·rw[RI hl]
  unfold inW fF;refine zJ func15 ntmps15 results15 ?_;simp only[go_sem]
  (refine zW qw (z2 DO hct) (zx @k1 (zx @k2 (zx @hde (zx @hu2 (zx @k3 @k4))))) (zc ?_ (zc ?_ (zc ?_ (zc ?_ (zc ?_ (zc ?_ (zc ?_ (zc ?_ (zc ?_ (zc ?_ (zc ?_ (zc ?_ (zc ?_ (zc ?_ (zc ?_ (zc ?_ (zc ?_ (zc ?_ (zc ?_ (zc ?_ (z4 ?_ ?_ ?_ ?_)))))))))))))))))))))<;>(repeat with_reducible intro hc))
  all_goals try exact zk2
  all_goals(
   refine zOp Yj ?_;simp(disch:=omega) only[go_sem,aa]
   exact Xg (r:=noR 0) rfl rfl rfl rfl)
structure Ye (l:List X1) (v:Nat×AWorld):Prop where
 k:v.1≤l.length
 m:v.1≤100
 w:v.2=ll je (l.take v.1)
 a:dO v.2 v.1
 d0:0≤v.2.deeds
 d1:v.2.deeds≤v.1
theorem rO(w:AWorld)(l:List X1)(d:X1):ll w (l++[d])=(doW (ll w l) d).1:=by unfold ll;rw[Tz];rfl
theorem Ye.start(l:List X1):Ye l (0,je):=⟨RX _,RX _,by simp only[Tf];rfl,dO.start,SP _,SP _⟩
theorem Ye.next{l:List X1}{v:Nat×AWorld}(h:Ye l v)(hk:v.1<l.length)(hm:v.1<100){u:AWorld}{r:X2}(hR:doW v.2 (l.getD v.1 default)=(u,r)):Ye l (v.1+1,u):=by obtain⟨h1,h2,h3,h4,h5,h6⟩:=h;have ha:=h4.does (by omega) (l.getD v.1 default);have hb:=nh (d:=l.getD v.1 default) h5;have hw:=rO je (l.take v.1) (l.getD v.1 default);rw[←aN l _ hk,←h3] at hw;rw[hR] at ha hb hw;simp only at hb hw;exact⟨hk,hm,hw.symm,ha,hb.1,by simp only;omega⟩
theorem Ye.end{l:List X1}{v:Nat×AWorld}(h:Ye l v)(hk:¬ (v.1<l.length∧v.1<100)):v.2=ll je (l.take 100):=by
 have h1:=h.k;have h2:=h.m;rw[h.w]
 by_cases e:v.1=100
 ·rw[e]
 ·rw[RK (i:=v.1) (by omega),RK (i:=100) (by omega)]
theorem dO.all:∀(l:List X1) {w:AWorld} {n:Nat},dO w n→n+l.length≤1000→0≤w.deeds→w.deeds≤n→dO (ll w l) (n+l.length)∧0≤(ll w l).deeds∧(ll w l).deeds≤((n+l.length:Nat):Int)
 |[],w,n,h,_,h0,h1=>⟨h,h0,h1⟩
 | d::l,w,n,h,hn,h0,h1=>by
   rw[RQ] at hn ⊢;have hb:=nh (d:=d) h0
   have:=dO.all l (h.does (by omega) d) (by omega) hb.1 (by omega);rw[show n+(l.length+1)=n+1+l.length by omega];exact this
structure TrInv (Y:List ATxn) (v:Nat×XW):Prop where
 k:v.1≤Y.length
 p:cz t00 (Y.take v.1)=some v.2
theorem zo(a:X2)(h:a.notes.length*32≤140737488351232):ab prog [] 14 [a.av,a.av] (ret (B true)):=by
 have hn:=(yj a.notes a.notes h h).re (congrArg B (decide_eq_true rfl));refine zJ func14 ntmps14 results14 ?_;simp only[go_sem];refine zW qw (z1 hn) Yj (z1 ?_)
 all_goals try exact zk2
 all_goals exact zEe Yj
structure Yh (l:List X1) (v:Nat×AWorld):Prop where
 k:v.1≤l.length
 w:v.2=ll je (l.take v.1)
 a:dO v.2 v.1
 d0:0≤v.2.deeds
 d1:v.2.deeds≤v.1
theorem Yh.start(l:List X1):Yh l (0,je):=⟨RX _,by simp only[Tf];rfl,dO.start,SP _,SP _⟩
theorem Yh.next{l:List X1}{v:Nat×AWorld}(h:Yh l v)(hk:v.1<l.length)(hl:l.length≤300){u:AWorld}{r:X2}(hR:doW v.2 (l.getD v.1 default)=(u,r)):Yh l (v.1+1,u):=by obtain⟨h1,h3,h4,h5,h6⟩:=h;have ha:=h4.does (by omega) (l.getD v.1 default);have hb:=nh (d:=l.getD v.1 default) h5;have hw:=rO je (l.take v.1) (l.getD v.1 default);rw[←aN l _ hk,←h3] at hw;rw[hR] at ha hb hw;simp only at hb hw;exact⟨hk,hw.symm,ha,hb.1,by simp only;omega⟩
theorem ME:Pls [XS [0,1,2,3,4,6,7,8,9] (.fork 5 (XS [10,11,12,13,14,15,17,18,19] (.fork 16 (XS [20,21,22,23,24,26,27,28] (.fork 25 (XS [29,30,31,32] .done) 29 (XS [25,30,31,32] .done))) 20 (XS [16,21,22,23,24,26,27,28] (.fork 25 (XS [29,30,31,32] .done) 29 (XS [25,30,31,32] .done))))) 10 (XS [5,11,12,13,14,15,17,18,19] (.fork 16 (XS [20,21,22,23,24,26,27,28] (.fork 25 (XS [29,30,31,32] .done) 29 (XS [25,30,31,32] .done))) 20 (XS [16,21,22,23,24,26,27,28] (.fork 25 (XS [29,30,31,32] .done) 29 (XS [25,30,31,32] .done)))))),XS [0,1] (.fork 2 (XS [3,4,5] .done) 3 (XS [2,4,5] .done)),XS [0,1,3,4,5,6,7] (.fork 2 (XS [8,9,10] .done) 8 (XS [2,9,10] .done))]:=pls _
def sv0:XV:=⟨false,⟨[]⟩,⟨0,0,[],0⟩,⟨0,[],[]⟩,[]⟩
theorem vW(w:AWorld)(ii:Int)(h:ii<0∨3≤ii):ab prog (inW w) 22 [.ptr 0 0,I ii] (dr sv0.av (inW w)):=by
 unfold inW sv0;refine zJ func22 ntmps22 results22 ?_;simp only[go_sem]
 (refine zW qw zn Yj (z1 ?_)<;>(repeat with_reducible intro hc))
 all_goals try exact zk2
 all_goals(
  refine zOp Yj ?_;simp(disch:=omega) only[go_sem,aa]
  refine Xw rfl rfl (fun j hj=>by simp[eB,dB] at hj) ?_ ?_ ?_ ?_<;>simp(disch:=omega) only[go_sem,aa,I,B,S,zj,TV])
theorem yv(l:List X1)(hl:∀ d,d∈l→d.wf∧d.request.path.length≤1048576)(hll:l.length≤1048576):ab prog [] 4 [.d (.sl 13 (l.map X1.row))] (ret (B true)):=by
 refine zJ func4 ntmps4 results4 ?_;simp only[go_sem]
 (refine zW qw (z2 OM PG) Yj (z1 ?_)<;>(repeat with_reducible intro hc))
 all_goals try exact zk2
 refine W9 (ι:=Nat×AWorld) (fun v=>Ye l v) (fun v=>l.length-v.1) [0,3,4] (fun v=>[(5,I v.1)]) (fun v=>[.cells (wC (cw v.2) 1),.rows 7 (v.2.done.map ATxn.row),.cells (wC (cw v.2) 3),.rows 7 (v.2.done.map ATxn.row)]) (0,je) ?_ ?_ ?_
 ·exact Ye.start l
 ·have hn0:je.done=[]:=rfl
  simp only[go_sem,hn0];exact zFr [0,1,2,3] (zx @hn0 @List.map_nil.{0,0})
 intro v hv;simp only[go_sem];have hvk:=hv.k;have hvm:=hv.m
 by_cases hk:v.1<l.length∧v.1<100
 ·have hdm:l.getD v.1 default∈l:=by rw[RG,RH hk.1];exact SD hk.1
  have hdo:=Rx v.2 (l.getD v.1 default) v.1 hv.a (by omega) hv.d0 (hl _ hdm).1 (hl _ hdm).2;have hro:=Rs v.2 (l.getD v.1 default) v.1 hv.a (by omega) hv.d0 (by have:=hv.d1;omega) (hl _ hdm).1 (hl _ hdm).2;have hnf:=He hv.a (l.getD v.1 default);have hwa:=hv.a.does (by omega) (l.getD v.1 default);have hnx:=fun u r=>@Ye.next l v hv hk.1 hk.2 u r
  unfold inW d6 avN at hdo;unfold inW fF at hro;generalize doW v.2 (l.getD v.1 default)=R at hdo hro hnf hwa hnx;obtain⟨u,r⟩:=R;have hnx:=hnx u r rfl;simp only at hdo hro hnf hwa;have hfw:=hwa.few;have hsr:=zo r (by omega);have hld:=GM u;have hak:=OD u (by omega);have hsl:=(wY u.done u.done (by omega) (by omega)).re (congrArg B (decide_eq_true rfl));have t1:List.take u.done.length (u.done.map ATxn.row)=u.done.map ATxn.row:=RK (by simp);unfold inW at hld hak
  (refine zW qw (zc ME (zc (ad [0,1] hdo) (zc (ac [2,3] hro) (zc (ac [0,4] hld) (zc (ac [0,5] hld) (z4 (ac [0,4] hak) (ac [0,5] hak) hsr hsl)))))) @t1 (zc ?_ (zc ?_ (zc ?_ (zc ?_ (z4 ?_ ?_ ?_ ?_)))))<;>(repeat with_reducible intro hc))
  all_goals try exact zk2
  all_goals refine⟨(v.1+1,u),hnx,by simp only;omega,?_⟩
  all_goals first|(refine zV [0,4,2,6] rfl rfl rfl rfl ?_ ?_<;>simp(disch:=omega) only[go_sem,aa,Ss]<;>(try rfl))|exact zFr [0,5,2,4] Yj
 have ha:=hv.a;have hlt:v.1<1000:=by omega
 generalize v.2=w at ha ⊢;generalize v.1=n at ha hlt hk
 (refine zW qw zn Yj (z1 ?_)<;>(repeat with_reducible intro hc))
 all_goals try exact zk2
 refine W9 (ι:=Nat) (fun j=>j≤5) (fun j=>5-j) [3,4] (fun j=>[(6,I ((j:Int)-1))]) (fun j=>[.cells (wC (cw w) 1),.rows 7 (w.done.map ATxn.row),.cells (wC (cw w) 3),.rows 7 (w.done.map ATxn.row)]) 0 ?_ ?_ ?_
 ·omega
 ·simp only[go_sem];exact zFr [0,1,2,3] Yj
 intro j hj;simp only[go_sem]
 by_cases hj5:j<5
 ·by_cases hr:1≤j∧j<4
  ·obtain⟨k,rfl⟩:∃ k,j=k+1:=⟨j-1,by omega⟩
   have hk3:k<3:=by omega
   have hjk:((k+1:Nat):Int)-1=(k:Int):=by omega
   have hs:=(ha.server hlt hk3).1;have hsv:=G2 w k hk3 hs k rfl;have hss:=pI (w.s k) ⟨hs.2.1.1,hs.2.2.1.2.2.1.1,hs.2.2.2.1,hs.2.2.2.2.1⟩;unfold inW at hsv
   (refine zW qw (z3 ME (ac [0,1] hsv) hss) @hjk (z2 ?_ ?_)<;>(repeat with_reducible intro hc))
   all_goals try exact zk2
   all_goals refine Zq (k+1+1) ?_
   all_goals have hq:(k:Int)+1+1-1=(k:Int)+1:=by omega
   all_goals exact zFr [0,1,2,3] (zx @hjk @hq)
  ·have hsv:=vW w ((j:Int)-1) (by omega)
   have hss:=pI sv0 y8;unfold inW sv0 at hsv;unfold sv0 at hss
   (refine zW qw (z3 ME (ac [0,1] hsv) hss) Yj (z2 ?_ ?_)<;>(repeat with_reducible intro hc))
   all_goals try exact zk2
   all_goals refine Zq (j+1) ?_
   all_goals have hq:(j:Int)-1+1=(j:Int)+1-1:=by omega
   all_goals exact zFr [0,1,2,3] @hq
 obtain rfl:j=5:=by omega
 (refine zW qw zn Yj (z1 ?_)<;>(repeat with_reducible intro hc))
 all_goals try exact zk2
 clear hj hj5;refine W9 (ι:=Nat) (fun j=>j≤16) (fun j=>16-j) [3,4] (fun j=>[(8,I j)]) (fun j=>[.cells (wC (cw w) 1),.rows 7 (w.done.map ATxn.row),.cells (wC (cw w) 3),.rows 7 (w.done.map ATxn.row)]) 0 ?_ ?_ ?_
 ·omega
 ·simp only[go_sem];exact zFr [0,1,2,3] Yj
 intro j hj;simp only[go_sem]
 by_cases hk:j<16
 ·have hs:=(ha.client hlt hk).1
  have hsv:=Gs w j hk hs j rfl;have hss:=(vZ (w.c j) (w.c j) (by have:=(ha.cache hlt hk).1;omega) (by have:=(ha.cache hlt hk).1;omega)).re (congrArg B (decide_eq_true rfl));unfold inW at hsv
  (refine zW qw (z3 ME (ac [0,1] hsv) hss) Yj (z2 ?_ ?_)<;>(repeat with_reducible intro hc))
  all_goals try exact zk2
  all_goals refine Zq (j+1) ?_
  all_goals exact zFr [0,1,2,3] Yj
 ·(refine zW qw zn Yj (z1 ?_)<;>(repeat with_reducible intro hc))
  all_goals try exact zk2
  all_goals exact zEe Yj
theorem yk(dss:List (List DV))(h:uM T 6 Tryz.f4.params.toList dss)(hs:∀ cs,cs∈dss→∀ c,c∈cs→Ya 1048576 c):ab prog [] 4 (qo T Tryz.f4.params.toList dss) (fun v _=>v=B true):=by rw[Tryz.params4] at h ⊢;simp only[SK,uM] at h;obtain⟨c0,d0,rfl,h0,rfl⟩:=h;have s0:=hs c0 (by simp);obtain⟨l,rfl,v_l,w_l⟩:=Rf (m:=5) (e:=30) (sz:=13) (by_:=120) (f:=X1.row) (wf:=X1.wf) (by simp only[PQ,Jv]) (by simp only[NB,G6]) (by simp only[NB,G6]) (fun r hr=>Br (m:=2) hr) h0;have u_l:=s0;simp only[SK,qo,HL,XA,PQ,Jv];exact(yv l (fun d hd=>⟨w_l d hd,((u_l (DV.sl 13 (l.map X1.row)) (by simp)).rows.2 _ (Uc hd) (DV.str d.request.path) (by simp[X1.row])).len⟩) (by simpa using(u_l (DV.sl 13 (l.map X1.row)) (by simp)).rows.1)).mono fun _ _ h=>h.1
end Go.Proofs.YtjcooccnfkfjhaaGreatDoor
