/- A part of what Tops leans on: texts of this claim, one behind the other. No condition. -/
import Derived.Test.YtjcooccnfkfjhaaGreatDoorTopsK13
namespace Go.Proofs.YtjcooccnfkfjhaaGreatDoor
set_option linter.unusedVariables false
set_option linter.unusedSimpArgs false
open Go Go.RowKit
theorem MZ:Pls [Plan.takes [0,1,2,3,4,5,6,7] .done,Plan.takes [0,1,2,3,4,5,6,7] .done]:=pls _
set_option maxRecDepth 100000
theorem od:∀ (l:List ADeed) {w:AWorld},w.deeds+l.length≤300→(dU w l).deeds=w.deeds+l.length
  | [],w,_=>by show w.deeds=w.deeds+((0:Nat):Int);omega
  | d::l,w,h=>by
    rw [List.length_cons] at h ⊢
    have h1:=yh (w:=w) (by omega) d
    have:=od l (w:=(doW w d).1) (by omega)
    show (dU (doW w d).1 l).deeds=_
    rw [this];omega
def wd (w:AWorld) (v:Nat):AWorld:={ w with deeds:=(v:Int) }
theorem I9 {w:AWorld} {v:Nat} (h:w.deeds=v):wd w v=w:=by
  unfold wd;rw [←h]
theorem Nv (w:AWorld) {v:Nat} (h:v < 300):doW (wd w v) rv=(wd w (v+1),noR 4):=by
  rw [IJ (w:=wd w v) (by show (v:Int) < 300;omega)]
  rfl
theorem Ae {w:AWorld} {n:Nat} (h:bx w n) (v:Nat):bx (wd w v) n:=h.deed v
set_option maxHeartbeats 16000000 in
theorem Dx (l:List ADeed) (d:ADeed) (hl:∀ d,d∈l→d.wf∧d.request.path.length≤1048576) (hll:l.length≤1048576) (hdw:d.wf) (hdp:d.request.path.length≤1048576):ab Tryz.prog [] 11 [.d (.sl 13 (l.map ADeed.row)),d.av] (ret (B true)):=by
  have hp:=sE 26 lm l hl hll
  obtain ⟨n,hn,ha,hd0,hd1⟩:=sQ l
  have hct:=od (l.take 100) (w:=dM) (by show (0:Int)+_≤300;rw [List.length_take];omega)
  have hm:((l.take 100).length:Int)=min (l.length:Int) 100:=by rw [List.length_take];omega
  have hm2:(l.take 100).length≤100:=by rw [List.length_take];omega
  generalize (l.take 100).length=m at hct hm hm2
  generalize dU dM (l.take 100)=w at hp ha hd0 hd1 hct
  have hwm:wd w m=w:=I9 (by rw [hct];show (0:Int)+_=_;omega)
  have hal:=G2 (wd w 300) n (Ae ha 300) (by omega)
  have hld:=lJ (wd w 300)
  have hdo:=oc (wd w 300) d n (Ae ha 300) (by omega) (by show (0:Int)≤300;decide) hdw hdp
  rw [Bw (by show (300:Int)≤300;decide)] at hdo
  have hsr:=vO ⟨6,0,[],[],⟨0,0,0,0,0,0,0⟩,[]⟩ (by decide)
  have hdo:ab Tryz.prog (inW (wd w 300)) 17 [.ptr 0 0,d.av] (cp (.agg [I 6,I 0,S [],S [],I 0,I 0,I 0,I 0,I 0,I 0,I 0,.osl 3 3 0 0]) [.cells (wC (cw (wd w 300)) 2),.dead,.rows 7 (w.done.map ATxn.row),.rows 3 []]):=hdo
  have hal:ab Tryz.prog [.cells (wC (cw (wd w 300)) 1),.rows 7 (w.done.map ATxn.row)] 40 [.ptr 0 0] (cp (.tup [.agg (svA w.s),.agg (clA w.c)]) [.cells (wC (cw (wd w 300)) 1),.rows 7 (w.done.map ATxn.row)]):=hal
  have hld:ab Tryz.prog [.cells (wC (cw (wd w 300)) 1),.rows 7 (w.done.map ATxn.row)] 18 [.ptr 0 0] (cp (I w.leader) [.cells (wC (cw (wd w 300)) 1),.rows 7 (w.done.map ATxn.row)]):=hld
  have hdo:ab Tryz.prog [.cells (wC (cw (wd w 300)) 1),.rows 7 (w.done.map ATxn.row)] 17 [.ptr 0 0,d.av] (cp (.agg [I 6,I 0,S [],S [],I 0,I 0,I 0,I 0,I 0,I 0,I 0,.osl 3 3 0 0]) [.cells (wC (cw (wd w 300)) 2),.dead,.rows 7 (w.done.map ATxn.row),.rows 3 []]):=hdo
  unfold inW at hp
  refine zJ Tryz.func11 Tryz.ntmps11 Tryz.results11 ?_;simp only [go_sem]
  (refine zW qw (z1 hp) trivial (z1 ?_)<;>(repeat with_reducible intro hc))
  all_goals first | (exfalso;omega) | contradiction | skip
  have hmi:(if (100:Int) < (l.length:Int) then (100:Int) else (l.length:Int))=(m:Int):=by split<;>omega
  refine AWP.loopB (ι:=Nat) (fun v=>m≤v∧v≤300) (fun v=>300 - v) [3,5] (fun v=>[(7,I v)]) (fun v=>[.cells [I d.kind,I d.client,I d.server,I d.request.op,I d.request.session,S d.request.path,S d.request.data,I d.request.version,I d.request.flags,I d.lost,I d.slow,I d.keep,B d.watch],.cells (wC (cw (wd w v)) 2),.rows 7 (w.done.map ATxn.row)]) m ?_ ?_ ?_
  · omega
  · simp only [go_sem];exact zFr [0,1,2] (zx @hmi @hwm)
  intro v hv
  simp only [go_sem]
  by_cases hk:v < 300
  · have hno:=oc (wd w v) rv n (Ae ha v) (by omega) (by show (0:Int)≤(v:Int);omega) (by unfold rv ADeed.wf ARequest.wf okI okS;decide) (by decide)
    rw [Nv w hk] at hno
    have hno:ab Tryz.prog [.cells (wC (cw (wd w v)) 1),.rows 7 (w.done.map ATxn.row)] 17 [.ptr 0 0,ADeed.av ⟨0,0,0,⟨0,0,[],[],0,0⟩,0,0,0,false⟩] (cp (.agg [I 4,I 0,S [],S [],I 0,I 0,I 0,I 0,I 0,I 0,I 0,.osl 3 3 0 0]) [.cells (wC (cw (wd w (v+1))) 2),.dead,.rows 7 (w.done.map ATxn.row),.rows 3 []]):=hno
    (refine zW qw (z1 (ad [1,2] hno)) trivial (z1 ?_)<;>(repeat with_reducible intro hc))
    all_goals first | (exfalso;omega) | contradiction | skip
    all_goals refine ⟨v+1,by omega,by omega,?_⟩
    all_goals exact zFr [0,1,3] trivial
  obtain rfl:v=300:=by omega
  (refine zW qw (zc (ac [1,2] hal) (zc (ac [1,5] hal) (z4 (ac [1,2] hld) (ac [1,5] hld) (ad [1,2] hdo) hsr))) trivial (z1 ?_)<;>(repeat with_reducible intro hc))
  all_goals first | (exfalso;omega) | contradiction | skip
  all_goals (
    refine AWP.loopB (ι:=Nat) (fun v=>v≤3) (fun v=>3 - v) [8,9,11,12] (fun v=>[(13,I v)]) (fun v=>[.cells [I d.kind,I d.client,I d.server,I d.request.op,I d.request.session,S d.request.path,S d.request.data,I d.request.version,I d.request.flags,I d.lost,I d.slow,I d.keep,B d.watch],.cells (wC (cw (wd w 300)) 5),.dead,.cells (svA w.s),.cells (clA w.c),.rows 7 (w.done.map ATxn.row),.dead,.cells (svA w.s),.cells (clA w.c)]) 0 ?_ ?_ ?_
    · omega
    · simp only [go_sem];exact zFr [0,1,2,3,4,5,6,7,8] trivial
    intro v hv
    simp only [go_sem]
    by_cases hk:v < 3
    · have hss:=mh (w.s v) (ha.server (by omega) hk).1
      (refine zW qw (z2 MZ hss) trivial (z1 ?_)<;>(repeat with_reducible intro hc))
      all_goals first | (exfalso;omega) | contradiction | skip
      all_goals refine ⟨v+1,by omega,by omega,?_⟩
      all_goals exact zFr [0,1,2,3,4,5,6,7,8] trivial
    obtain rfl:v=3:=by omega
    (refine zW qw zn trivial (z1 ?_)<;>(repeat with_reducible intro hc))
    all_goals first | (exfalso;omega) | contradiction | skip
    clear hv hk
    refine AWP.loopB (ι:=Nat) (fun v=>v≤16) (fun v=>16 - v) [9,12] (fun v=>[(14,I v)]) (fun v=>[.cells [I d.kind,I d.client,I d.server,I d.request.op,I d.request.session,S d.request.path,S d.request.data,I d.request.version,I d.request.flags,I d.lost,I d.slow,I d.keep,B d.watch],.cells (wC (cw (wd w 300)) 5),.dead,.cells (svA w.s),.cells (clA w.c),.rows 7 (w.done.map ATxn.row),.dead,.cells (svA w.s),.cells (clA w.c)]) 0 ?_ ?_ ?_
    · omega
    · simp only [go_sem];exact zFr [0,1,2,3,4,5,6,7,8] trivial
    intro v hv
    simp only [go_sem]
    by_cases hk:v < 16
    · have hss:=mt (w.c v) (by have:=(ha.cache (by omega) hk).1;omega)
      (refine zW qw (z2 MZ hss) trivial (z1 ?_)<;>(repeat with_reducible intro hc))
      all_goals first | (exfalso;omega) | contradiction | skip
      all_goals refine ⟨v+1,by omega,by omega,?_⟩
      all_goals exact zFr [0,1,2,3,4,5,6,7,8] trivial
    · (refine zW qw zn trivial (z1 ?_)<;>(repeat with_reducible intro hc))
      all_goals first | (exfalso;omega) | contradiction | skip
      all_goals exact zEe trivial)
theorem DZ (dss:List (List DV)) (h:fG T 6 Tryz.f11.params.toList dss) (hs:∀ cs,cs∈dss→∀ c,c∈cs→SmallD 1048576 c):ab Tryz.prog [] 11 (fT T Tryz.f11.params.toList dss) (fun v _=>v=B true):=by
  rw [Tryz.params11] at h ⊢
  simp only [List.toList_toArray,fG] at h
  obtain ⟨c0,d0,rfl,h0,c1,d1,rfl,h1,rfl⟩:=h
  have s0:=hs c0 (by simp)
  have s1:=hs c1 (by simp)
  obtain ⟨l,rfl,v_l,w_l⟩:=xA (m:=5) (e:=30) (sz:=13) (by_:=120) (f:=ADeed.row) (wf:=ADeed.wf) (by simp only [sM,oV]) (by simp only [oO,na]) (by simp only [oO,na]) (fun r hr=>eZ (m:=2) hr) h0
  obtain ⟨d,rfl,w_d⟩:=eZ (m:=3) h1
  have u_l:=s0
  have u_d:=s1
  simp only [List.toList_toArray,fT,vp,TI.agg_mk,sM,oV,oO,na]
  exact (Dx l d (fun d hd=>⟨w_l d hd,((u_l (DV.sl 13 (l.map ADeed.row)) (by simp)).rows.2 _ (List.mem_map_of_mem hd) (DV.str d.request.path) (by simp [ADeed.row])).len⟩) (by simpa using (u_l (DV.sl 13 (l.map ADeed.row)) (by simp)).rows.1) w_d (u_d (DV.str d.request.path) (by simp [ADeed.row])).len).mono fun _ _ h=>h.1
theorem LO:Pls [Plan.takes [0,1,2,3,4,5,6,7] .done,Plan.takes [0,1,2,3,4,5,6,7,8,9,10,11,12] .done]:=pls _
set_option maxHeartbeats 16000000 in
theorem zZ (l:List ADeed) (who server:Int) (p:List UInt8) (hl:∀ d,d∈l→d.wf∧d.request.path.length≤1048576) (hll:l.length≤1048576) (hwp:okS p) (hp8:p.length≤1048576):ab Tryz.prog [] 9 [.d (.sl 13 (l.map ADeed.row)),I who,I server,S p] (ret (B true)):=by
  have hp:=sE 26 lm l hl hll
  obtain ⟨n,hn,ha,hd0,hd1⟩:=sQ l
  generalize dU dM (l.take 100)=w at hp ha hd0 hd1
  have hk1:=Be who 16 (by decide) (by decide)
  have ho1:=rJ who (n:=16) (by decide)
  have hk2:=Be server 3 (by decide) (by decide)
  have ho2:=rJ server (n:=3) (by decide)
  have hk1:ab Tryz.prog [] 28 [I who,I 16] (ret (I (lZ who ((16:Nat):Int)))):=hk1
  have hk2:ab Tryz.prog [] 28 [I server,I 3] (ret (I (lZ server ((3:Nat):Int)))):=hk2
  generalize lZ who ((16:Nat):Int)=c at hk1 ho1
  generalize lZ server ((3:Nat):Int)=s at hk2 ho2
  obtain ⟨c,rfl⟩:∃ k:Nat,c=(k:Int):=⟨c.toNat,by omega⟩
  obtain ⟨s,rfl⟩:∃ k:Nat,s=(k:Int):=⟨s.toNat,by omega⟩
  have hc:c < 16:=by omega
  have hs:s < 3:=by omega
  have z:okI 0:=by unfold okI;decide
  have y:okS []:=by unfold okS;decide
  have hdo:=oc w (fg c s p) n ha (by omega) hd0 ⟨by show okI 2;unfold okI;decide,by show okI (c:Int);unfold okI;omega,by show okI (s:Int);unfold okI;omega,⟨z,z,hwp,y,z,z⟩,z,z,z,trivial⟩ hp8
  have hrd:=fun u r=>@Ko w (by omega) c s hc hs ha.wl.cl p u r
  have hau:=ha.does (by omega) (fg c s p)
  have hal:=G2 w n ha (by omega)
  have hsr:=ha.server (by omega) hs
  have hgt:=iO (w.s s).tree p hsr.2.1.1.2.1.1 (aV hsr.2.2.1)
  unfold fg at hdo hrd hau
  generalize doW w ⟨2,(c:Int),(s:Int),⟨0,0,p,[],0,0⟩,0,0,0,false⟩=R at hdo hrd hau
  obtain ⟨u,r⟩:=R
  obtain ⟨r1,r2,r3,r4,r5⟩:=hrd u r rfl
  have hal2:=G2 u (n+1) hau (by omega)
  have e1:u.s=w.s:=funext r1
  unfold inW cE avN at hdo
  unfold inW at hp hal hal2
  simp only at hdo
  rw [e1] at hal2
  refine zJ Tryz.func9 Tryz.ntmps9 Tryz.results9 ?_;simp only [go_sem]
  (refine zW qw (zc hp (zc hk1 (z4 hk2 (ac [0,1] hal) (ac [0,4] hal2) (ad [0,1] hdo)))) trivial (z1 ?_)<;>(repeat with_reducible intro hc))
  all_goals first | (exfalso;omega) | contradiction | skip
  all_goals (
    refine AWP.loopB (ι:=Nat) (fun v=>v≤3) (fun v=>3 - v) [1,2,3,11,12,13,14,15] (fun v=>[(16,I v)]) (fun v=>[.cells (wC (cw u) 4),.dead,.cells (svA w.s),.cells (clA w.c),.rows 7 (u.done.map ATxn.row),.dead,.cells [I r.code,I r.zxid,S r.path,S r.data,I r.stat.czxid,I r.stat.mzxid,I r.stat.pzxid,I r.stat.version,I r.stat.cversion,I r.stat.owner,I r.stat.kids,.d (.sl 3 (r.notes.map ANote.row))],.cells (svA w.s),.cells (clA u.c)]) 0 ?_ ?_ ?_
    · omega
    · simp only [go_sem];exact zFr [0,1,2,3,4,5,6,7,8] trivial
    intro v hv
    simp only [go_sem]
    by_cases hk:v < 3
    · have hss:=mh (w.s v) (ha.server (by omega) hk).1
      (refine zW qw (z2 LO hss) trivial (z1 ?_)<;>(repeat with_reducible intro hc))
      all_goals first | (exfalso;omega) | contradiction | skip
      all_goals refine ⟨v+1,by omega,by omega,?_⟩
      all_goals exact zFr [0,1,2,3,4,5,6,7,8] trivial
    obtain rfl:v=3:=by omega
    (refine zW qw zn trivial (z1 ?_)<;>(repeat with_reducible intro hc))
    all_goals first | (exfalso;omega) | contradiction | skip
    clear hv hk
    refine AWP.loopB (ι:=Nat) (fun v=>v≤16) (fun v=>16 - v) [1,2,3,11,12,13,15] (fun v=>[(17,I v)]) (fun v=>[.cells (wC (cw u) 4),.dead,.cells (svA w.s),.cells (clA w.c),.rows 7 (u.done.map ATxn.row),.dead,.cells [I r.code,I r.zxid,S r.path,S r.data,I r.stat.czxid,I r.stat.mzxid,I r.stat.pzxid,I r.stat.version,I r.stat.cversion,I r.stat.owner,I r.stat.kids,.d (.sl 3 (r.notes.map ANote.row))],.cells (svA w.s),.cells (clA u.c)]) 0 ?_ ?_ ?_
    · omega
    · simp only [go_sem];exact zFr [0,1,2,3,4,5,6,7,8] trivial
    intro v hv
    simp only [go_sem]
    by_cases hk:v < 16
    · have hss:=mt (w.c v) (by have:=(ha.cache (by omega) hk).1;omega)
      by_cases hvc:v=c
      · subst hvc
        (refine zW qw (z2 LO hss) trivial (z1 ?_)<;>(repeat with_reducible intro hc))
        all_goals first | (exfalso;omega) | contradiction | skip
        all_goals refine ⟨v+1,by omega,by omega,?_⟩
        all_goals exact zFr [0,1,2,3,4,5,6,7,8] trivial
      · have hrv:=r2 v hvc
        (refine zW qw (z2 LO hss) @hrv (z1 ?_)<;>(repeat with_reducible intro hc))
        all_goals first | (exfalso;omega) | contradiction | skip
        all_goals refine ⟨v+1,by omega,by omega,?_⟩
        all_goals exact zFr [0,1,2,3,4,5,6,7,8] trivial
    obtain rfl:v=16:=by omega
    clear hv hk
    by_cases hu:(w.s s).up=true
    case neg=>
      have hu2:(w.s s).up=false:=by simpa using hu
      have q1:=r3 hu2
      (refine zW qw (z1 hgt) (zx @hu2 @q1) (z1 ?_)<;>(repeat with_reducible intro hc))
      all_goals first | (exfalso;omega) | contradiction | skip
      all_goals exact zEe trivial
    by_cases hz:(w.s s).tree.zxid < (w.c c).seen
    · have q1:=r4 hu hz
      (refine zW qw (z1 hgt) (zx @hu @q1) (z1 ?_)<;>(repeat with_reducible intro hc))
      all_goals first | (exfalso;omega) | contradiction | skip
      all_goals exact zEe trivial
    · obtain ⟨q1,q2,q3,q4,q5⟩:=r5 hu hz
      generalize aP (w.s s).tree p=G at hgt q1 q2 q3
      obtain ⟨gn,ge⟩:=G
      simp only at hgt q1 q2 q3
      (refine zW qw (z1 hgt) (zx @hu (zx @q1 (zx @q2 (zx @q3 (zx @q4 @q5))))) (z1 ?_)<;>(repeat with_reducible intro hc))
      all_goals first | (exfalso;omega) | contradiction | skip
      all_goals exact zEe trivial)
theorem Az (dss:List (List DV)) (h:fG T 6 Tryz.f9.params.toList dss) (hs:∀ cs,cs∈dss→∀ c,c∈cs→SmallD 1048576 c):ab Tryz.prog [] 9 (fT T Tryz.f9.params.toList dss) (fun v _=>v=B true):=by
  rw [Tryz.params9] at h ⊢
  simp only [List.toList_toArray,fG] at h
  obtain ⟨c0,d0,rfl,h0,c1,d1,rfl,h1,c2,d2,rfl,h2,c3,d3,rfl,h3,rfl⟩:=h
  have s0:=hs c0 (by simp)
  have s1:=hs c1 (by simp)
  have s2:=hs c2 (by simp)
  have s3:=hs c3 (by simp)
  obtain ⟨l,rfl,v_l,w_l⟩:=xA (m:=5) (e:=30) (sz:=13) (by_:=120) (f:=ADeed.row) (wf:=ADeed.wf) (by simp only [sM,oV]) (by simp only [oO,na]) (by simp only [oO,na]) (fun r hr=>eZ (m:=2) hr) h0
  obtain ⟨who,rfl,w_who⟩:=fP (m:=5) (by simp only [T_3,ty3]) h1
  obtain ⟨server,rfl,w_server⟩:=fP (m:=5) (by simp only [T_3,ty3]) h2
  obtain ⟨p,rfl,w_p⟩:=Aj (m:=5) (by simp only [T_9,ty9]) h3
  have u_l:=s0
  have u_who:=s1
  have u_server:=s2
  have u_p:=(s3 _ (List.mem_singleton.2 rfl)).len
  simp only [List.toList_toArray,fT,vp,TI.agg_mk,T_3,ty3,T_9,ty9,sM,oV]
  exact (zZ l who server p (fun d hd=>⟨w_l d hd,((u_l (DV.sl 13 (l.map ADeed.row)) (by simp)).rows.2 _ (List.mem_map_of_mem hd) (DV.str d.request.path) (by simp [ADeed.row])).len⟩) (by simpa using (u_l (DV.sl 13 (l.map ADeed.row)) (by simp)).rows.1) w_p u_p).mono fun _ _ h=>h.1
end Go.Proofs.YtjcooccnfkfjhaaGreatDoor
