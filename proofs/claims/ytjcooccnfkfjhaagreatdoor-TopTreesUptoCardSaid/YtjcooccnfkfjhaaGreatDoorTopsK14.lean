/- A part of what Tops leans on: texts of this claim, one behind the other. No condition. -/
import Derived.Test.YtjcooccnfkfjhaaGreatDoorTopsK13
namespace Go.Proofs.YtjcooccnfkfjhaaGreatDoor
set_option linter.unusedVariables false
set_option linter.unusedSimpArgs false
open Go Go.RowKit
theorem qTk0:Pls [Plan.takes [0,2] (.fork 1 (Plan.takes [3,4,5,6,7,8,9,10,11,12,13,14,15,16] .done) 3 (Plan.takes [4,1,5,6,7,8,9,10,11,12,13,14,15,16] .done))]:=pls _
theorem qTk1:Pls [Plan.takes [0,1,2,3,4,5,6,7,8,9,10,11,12,13,14,15,16,17,18,20,21] (.fork 19 (Plan.takes [22,23,24,25,26,27] .done) 22 (Plan.takes [19,23,24,25,26,27] .done))]:=pls _
set_option maxRecDepth 100000
structure DnInv (keep:Int) (n:Nat) (F:AWorld×Bool) (v:Nat×AWorld):Prop where
  k:v.1≤3
  f:eI keep ([0,1,2].drop v.1) v.2=F
  a:bH v.2 (n+v.1)
  d0:0≤v.2.deeds
structure UpInv (n:Nat) (F:AWorld×Bool) (v:Nat×AWorld):Prop where
  k:v.1≤3
  f:kE ([0,1,2].drop v.1) v.2=F
  a:bH v.2 (n+v.1)
  d0:0≤v.2.deeds
theorem dr3 {k:Nat} (h:k < 3):[0,1,2].drop k=k::[0,1,2].drop (k+1):=by
  rcases k with _ | _ | _ | k<;>first | rfl | omega
theorem DnInv.no {keep:Int} {n:Nat} {F:AWorld×Bool} {v:Nat×AWorld} (h:DnInv keep n F v) (hk:v.1 < 3) (hu:(v.2.s v.1).up=false):DnInv keep n F (v.1+1,v.2):=by
  obtain ⟨h1,h2,⟨h3,h4,h5⟩,h6⟩:=h
  rw [dr3 hk,eI,if_neg (by rw [hu];decide)] at h2
  obtain ⟨g,es,K,h3⟩:=h3
  refine ⟨hk,h2,⟨⟨g,es,K,h3.mono (by simp only;omega)⟩,h4,h5.mono (by simp only;omega)⟩,h6⟩
theorem DnInv.yes {keep:Int} {n:Nat} {F:AWorld×Bool} {v:Nat×AWorld} (h:DnInv keep n F v) (hF:F.2=true) (hn:n < 900) (hk:v.1 < 3) (hu:(v.2.s v.1).up=true) {u:AWorld} {r:AReply} (hR:doW v.2 (cR v.1 keep)=(u,r)):r.code=0∧DnInv keep n F (v.1+1,u):=by
  obtain ⟨h1,h2,h3,h6⟩:=h
  rw [dr3 hk,eI,if_pos hu,hR] at h2
  have hb:=jv (d:=cR v.1 keep) h6
  have ha:=h3.does (by omega) (cR v.1 keep)
  rw [hR] at hb ha
  simp only at h2 hb ha
  by_cases hc:r.code=0
  · rw [if_pos hc] at h2
    exact ⟨hc,hk,h2,ha,hb.1⟩
  · rw [if_neg hc] at h2
    rw [←h2] at hF
    cases hF
theorem DnInv.end {keep:Int} {n:Nat} {F:AWorld×Bool} {v:Nat×AWorld} (h:DnInv keep n F v) (hk:¬ v.1 < 3):F=(v.2,true):=by
  have h1:=h.k
  have h2:=h.f
  rw [show v.1=3 by omega] at h2
  exact h2.symm
theorem UpInv.no {n:Nat} {F:AWorld×Bool} {v:Nat×AWorld} (h:UpInv n F v) (hk:v.1 < 3) (hu:(v.2.s v.1).up=true):UpInv n F (v.1+1,v.2):=by
  obtain ⟨h1,h2,⟨h3,h4,h5⟩,h6⟩:=h
  rw [dr3 hk,kE,if_neg (by rw [hu];decide)] at h2
  obtain ⟨g,es,K,h3⟩:=h3
  refine ⟨hk,h2,⟨⟨g,es,K,h3.mono (by simp only;omega)⟩,h4,h5.mono (by simp only;omega)⟩,h6⟩
theorem UpInv.yes {n:Nat} {F:AWorld×Bool} {v:Nat×AWorld} (h:UpInv n F v) (hF:F.2=true) (hn:n < 900) (hk:v.1 < 3) (hu:(v.2.s v.1).up=false) {u:AWorld} {r:AReply} (hR:doW v.2 (gx v.1)=(u,r)):r.code=0∧UpInv n F (v.1+1,u):=by
  obtain ⟨h1,h2,h3,h6⟩:=h
  rw [dr3 hk,kE,if_pos hu,hR] at h2
  have hb:=jv (d:=gx v.1) h6
  have ha:=h3.does (by omega) (gx v.1)
  rw [hR] at hb ha
  simp only at h2 hb ha
  by_cases hc:r.code=0
  · rw [if_pos hc] at h2
    exact ⟨hc,hk,h2,ha,hb.1⟩
  · rw [if_neg hc] at h2
    rw [←h2] at hF
    cases hF
theorem UpInv.end {n:Nat} {F:AWorld×Bool} {v:Nat×AWorld} (h:UpInv n F v) (hk:¬ v.1 < 3):F=(v.2,true):=by
  have h1:=h.k
  have h2:=h.f
  rw [show v.1=3 by omega] at h2
  exact h2.symm
theorem bH.downs {keep:Int}:∀ (r:List Nat) {w:AWorld} {n:Nat},bH w n→n+r.length < 1000→∃ m,m≤n+r.length∧bH (eI keep r w).1 m
  | [],w,n,h,_=>⟨n,Nat.le_refl _,h⟩
  | i :: r,w,n,h,hn=>by
    rw [List.length_cons] at hn ⊢
    rw [eI]
    split
    · split
      · obtain ⟨m,hm,hh⟩:=bH.downs r (h.does (by omega) (cR i keep)) (by omega)
        exact ⟨m,by omega,hh⟩
      · exact ⟨n+1,by omega,h.does (by omega) _⟩
    · obtain ⟨m,hm,hh⟩:=bH.downs r h (by omega)
      exact ⟨m,by omega,hh⟩
theorem bH.ups:∀ (r:List Nat) {w:AWorld} {n:Nat},bH w n→n+r.length < 1000→∃ m,m≤n+r.length∧bH (kE r w).1 m
  | [],w,n,h,_=>⟨n,Nat.le_refl _,h⟩
  | i :: r,w,n,h,hn=>by
    rw [List.length_cons] at hn ⊢
    rw [kE]
    split
    · split
      · obtain ⟨m,hm,hh⟩:=bH.ups r (h.does (by omega) (gx i)) (by omega)
        exact ⟨m,by omega,hh⟩
      · exact ⟨n+1,by omega,h.does (by omega) _⟩
    · obtain ⟨m,hm,hh⟩:=bH.ups r h (by omega)
      exact ⟨m,by omega,hh⟩
theorem wq {kind i keep:Int} (h1:okI kind) (h2:okI i) (h3:okI keep):ADeed.wf ⟨kind,0,i,default,0,0,keep,false⟩:=by
  have z:okI 0:=by unfold okI;decide
  have y:okS []:=by unfold okS;decide
  exact ⟨h1,z,h2,⟨z,z,y,y,z,z⟩,z,z,h3,trivial⟩
theorem ag.worldX {hp:List ABlk} {w:AWorld} {v:CW} {x y:AV} (p:Nat) (hv:v=cw w) (h0:hp[0]?=some (.cells (wC v p))) (h1:hp[p]?=some (.rows 7 (w.done.map ATxn.row))) (hp0:p≠0) (hn:bY x) (hc:dh x y) :
    ag 2 hp x (cu y [.cells (wC (cw w) 2),.dead,.rows 7 (w.done.map ATxn.row)]):=by
  subst hv
  have hl0:0 < hp.length:=(List.getElem?_eq_some_iff.1 h0).1
  have hlp:p < hp.length:=(List.getElem?_eq_some_iff.1 h1).1
  have s1:=aG.moveOwnC 0 82 (np:=2) (nt:=1) (env:=[(0,x)]) h0 (wV (cw w) p) h1 (by simp) hp0
  rw [n9] at s1
  have hren:=jd (mAt [0,1,hp.length] ((hp.set p ABlk.dead).set 0 (ABlk.cells (wC (cw w) hp.length))++[ABlk.rows 7 (w.done.map ATxn.row)]).length) x hn
  refine ag.of_simp (v':=x) (hp':=[.cells (wC (cw w) 2),.dead,.rows 7 (w.done.map ATxn.row)]) (aG.trans s1 (aG.frame [0,1,hp.length] rfl (fun i hi=>?_) ?_ (fun k hk=>?_) ?_ ?_)) (ag.coe hc (ag.same ⟨rfl,rfl⟩))
  · simp only [List.mem_cons,List.not_mem_nil,or_false] at hi
    simp only [List.length_append,List.length_set,List.length_cons,List.length_nil]
    omega
  · simp only [List.nodup_cons,List.mem_cons,List.not_mem_nil,or_false,not_or,not_false_eq_true,List.nodup_nil,and_true]
    omega
  · rcases k with _ | _ | k
    · rfl
    · rfl
    · omega
  · refine ⟨⟨?_,qI (Nat.zero_le _) _ hren.2⟩,trivial⟩
    simp only [bU,if_true]
    exact hren.1.symm
  · refine ⟨.inr ⟨?_,?_⟩,.inl rfl,.inr ⟨?_,trivial⟩,trivial⟩
    · show (((hp.set p ABlk.dead).set 0 (ABlk.cells (wC (cw w) hp.length))++[ABlk.rows 7 (w.done.map ATxn.row)])[0]?)=some (ABlk.cells (renL _ (wC (cw w) 2)))
      rw [rR,List.getElem?_append_left (by simp;omega),List.getElem?_set_self (by simp;omega)]
      rfl
    · exact B2 _ _ _ (show 2 < 3 by decide)
    · show (((hp.set p ABlk.dead).set 0 (ABlk.cells (wC (cw w) hp.length))++[ABlk.rows 7 (w.done.map ATxn.row)])[hp.length]?)=_
      rw [List.getElem?_append_right (by simp)]
      simp [renB]
set_option maxHeartbeats 16000000 in
theorem FT (w:AWorld) (n:Nat) (ha:bH w n) (hn:n < 900) (h0:0≤w.deeds) {b:AWorld×Bool} {e:AWorld×AReply} (hb:b=kE [0,1,2] w) (hb2:b.2=true) (he:e=doW b.1 ba) (he2:e.2.code=0) (he3:0≤e.1.leader∧e.1.leader < 3) :
    ab Tryz.prog (inW w) 66 [.ptr 0 0] (cu (.tup [I e.1.leader,B true]) [.cells (wC (cw e.1) 2),.dead,.rows 7 (e.1.done.map ATxn.row)]):=by
  unfold inW
  refine zJ Tryz.func66 Tryz.ntmps66 Tryz.results66 ?_;simp only [go_sem]
  (refine zW qw zn trivial (z1 ?_)<;>(repeat with_reducible intro hc))
  all_goals first | (exfalso;omega) | contradiction | skip
  refine AWP.weaken (aG.moveOwnC 0 82 (by rfl) (wV (cw w) 1) (by rfl) (by simp) (by decide)) ?_
  simp only [go_sem,n9]
  refine AWP.loopB (ι:=Nat×AWorld) (fun v=>UpInv n b v) (fun v=>3 - v.1) [0] (fun v=>[(4,I v.1)]) (fun v=>[.cells (wC (cw v.2) 2),.dead,.rows 7 (v.2.done.map ATxn.row)]) (0,w) ?_ ?_ ?_
  · exact ⟨Nat.zero_le _,hb.symm,ha,h0⟩
  · simp only [go_sem];exact zFr [0,1,2] trivial
  intro v hv
  simp only [go_sem]
  have hvk:=hv.k
  by_cases hk:v.1 < 3
  · have hs:=(hv.a.server (by omega) hk).1
    have hsv:=e8 v.2 v.1 hk hs v.1 rfl
    unfold inW at hsv
    by_cases hu:(v.2.s v.1).up=true
    · have hno:=hv.no hk hu
      (repeat' first
    | (with_reducible refine AR.f ?_)
    | refine an (by decide) ?_
    | (with_reducible refine AWP.cond rfl ?_ ?_<;>intro hc<;>(try simp only [hcs,beq_iff_eq,ge_iff_le,gt_iff_lt] at hc))
    | ((first | ((first | (with_reducible first | refine zR ?_ | refine zQ (by decide +kernel) ?_ | refine zD (by decide +kernel) ?_ | refine zE (by decide +kernel) ?_ | refine zG (by decide +kernel) ?_));intro K hK) | (refine acallH_at [0,2] (hsv) ?_ ?_ ?_;(focus ((try simp (disch:=omega) only [inj,List.cons.injEq,and_self,List.nodup_cons,List.not_mem_nil,List.mem_cons,not_false_eq_true,List.nodup_nil,go_sem,aa])<;>(try omega)<;>fail));(focus ((try simp (disch:=omega) only [inj,List.cons.injEq,and_self,List.nodup_cons,List.not_mem_nil,List.mem_cons,not_false_eq_true,List.nodup_nil,go_sem,aa])<;>(try omega)<;>(try decide)<;>fail))) | ((first | (with_reducible refine aunder_i ?_ ?_<;>intro hg) | with_reducible intro hg)<;>(first | (exfalso;simp at hg;done) | (have hg':=hg;(try simp only [hcs,beq_iff_eq,ge_iff_le,gt_iff_lt] at hg');(try simp only [hg])))))<;>(try simp (disch:=omega) only [go_sem,aa])<;>(repeat' with_reducible refine And.intro ?_ ?_)<;>(try (with_reducible refine hK _ ?_;clear hK K)))
    | omega)
      all_goals first | (exfalso;omega) | contradiction | (exfalso;simp [hu] at hg;done) | skip
      all_goals refine ⟨(v.1+1,v.2),hno,by simp only;omega,?_⟩
      all_goals exact zFr [0,1,2] trivial
    · have hu2:(v.2.s v.1).up=false:=by simpa using hu
      have hdo:=nA v.2 (gx v.1) (n+v.1) hv.a (by omega) hv.d0 (wq (by unfold okI;decide) (by unfold okI;omega) (by unfold okI;decide)) (Nat.zero_le _)
      have hys:=fun u r=>@UpInv.yes n b v hv hb2 hn hk hu2 u r
      unfold inW cH avN gx at hdo
      unfold gx at hys
      generalize doW v.2 ⟨4,0,(v.1:Int),default,0,0,0,false⟩=R at hdo hys
      obtain ⟨u,r⟩:=R
      obtain ⟨hc0,hnx⟩:=hys u r rfl
      simp only at hdo
      (refine zW qw (z2 (ac [0,2] hsv) (ac [0,2] hdo)) (zx @hu2 (zx @hc0 dfl)) (z1 ?_)<;>(repeat with_reducible intro hc))
      all_goals first | (exfalso;omega) | contradiction | skip
      all_goals refine ⟨(v.1+1,u),hnx,by simp only;omega,?_⟩
      all_goals exact zFr [0,1,3] trivial
  · have hbe:=hv.end hk
    have hdo:=nA v.2 ba (n+v.1) hv.a (by omega) hv.d0 (wq (by unfold okI;decide) (by unfold okI;decide) (by unfold okI;decide)) (Nat.zero_le _)
    have hae:=hv.a.does (by omega) ba
    rw [hbe] at he
    simp only at he
    rw [←he] at hdo
    unfold inW cH avN ba at hdo
    obtain ⟨u,r⟩:=e
    simp only at hdo he2 he3 ⊢
    have hld:=lO u
    unfold inW at hld
    (refine zW qw (z3 qTk0 (ac [0,2] hdo) (ac [0,3] hld)) (zx dfl @he2) (z2 ?_ ?_)<;>(repeat with_reducible intro hc))
    all_goals first | (exfalso;omega) | contradiction | skip
    all_goals (
      refine zO ?_ ?_
      · simp (disch:=omega) only [go_sem,aa]
      simp (disch:=omega) only [go_sem,aa]
      exact ag.worldX 3 rfl rfl rfl (by decide) (by simp [bY,ck]) (by simp (disch:=omega) only [go_sem,aa,decide_eq_true he3.2];first | done | exact lL _))
set_option maxHeartbeats 16000000 in
theorem Jf (w:AWorld) (n:Nat) (keep:Int) (ha:bH w n) (hn:n < 800) (h0:0≤w.deeds) (hkp:0≤keep∧keep < 300) {a b:AWorld×Bool} {e:AWorld×AReply} (hA:a=eI keep [0,1,2] w) (hA2:a.2=true) (hb:b=kE [0,1,2] a.1) (hb2:b.2=true) (he:e=doW b.1 ba) (he2:e.2.code=0) (he3:0≤e.1.leader∧e.1.leader < 3) :
    ab Tryz.prog (inW w) 27 [.ptr 0 0,I keep] (cu (.tup [I e.1.leader,B true]) [.cells (wC (cw e.1) 2),.dead,.rows 7 (e.1.done.map ATxn.row)]):=by
  unfold inW
  refine zJ Tryz.func27 Tryz.ntmps27 Tryz.results27 ?_;simp only [go_sem]
  (refine zW qw zn trivial (z1 ?_)<;>(repeat with_reducible intro hc))
  all_goals first | (exfalso;omega) | contradiction | skip
  refine AWP.weaken (aG.moveOwnC 0 82 (by rfl) (wV (cw w) 1) (by rfl) (by simp) (by decide)) ?_
  simp only [go_sem,n9]
  refine AWP.loopB (ι:=Nat×AWorld) (fun v=>DnInv keep n a v) (fun v=>3 - v.1) [0,1] (fun v=>[(6,I v.1)]) (fun v=>[.cells (wC (cw v.2) 2),.dead,.rows 7 (v.2.done.map ATxn.row)]) (0,w) ?_ ?_ ?_
  · exact ⟨Nat.zero_le _,hA.symm,ha,h0⟩
  · simp only [go_sem];exact zFr [0,1,2] trivial
  intro v hv
  simp only [go_sem]
  have hvk:=hv.k
  by_cases hk:v.1 < 3
  · have hs:=(hv.a.server (by omega) hk).1
    have hsv:=e8 v.2 v.1 hk hs v.1 rfl
    unfold inW at hsv
    by_cases hu:(v.2.s v.1).up=true
    · have hdo:=nA v.2 (cR v.1 keep) (n+v.1) hv.a (by omega) hv.d0 (wq (by unfold okI;decide) (by unfold okI;omega) (by unfold okI;omega)) (Nat.zero_le _)
      have hys:=fun u r=>@DnInv.yes keep n a v hv hA2 (by omega) hk hu u r
      unfold inW cH avN cR at hdo
      unfold cR at hys
      generalize doW v.2 ⟨3,0,(v.1:Int),default,0,0,keep,false⟩=R at hdo hys
      obtain ⟨u,r⟩:=R
      obtain ⟨hc0,hnx⟩:=hys u r rfl
      simp only at hdo
      (refine zW qw (z2 (ac [0,2] hsv) (ac [0,2] hdo)) (zx @hu (zx @hc0 dfl)) (z1 ?_)<;>(repeat with_reducible intro hc))
      all_goals first | (exfalso;omega) | contradiction | skip
      all_goals refine ⟨(v.1+1,u),hnx,by simp only;omega,?_⟩
      all_goals exact zFr [0,1,3] trivial
    · have hu2:(v.2.s v.1).up=false:=by simpa using hu
      have hno:=hv.no hk hu2
      (refine zW qw (z1 (ac [0,2] hsv)) @hu2 (z1 ?_)<;>(repeat with_reducible intro hc))
      all_goals first | (exfalso;omega) | contradiction | skip
      all_goals refine ⟨(v.1+1,v.2),hno,by simp only;omega,?_⟩
      all_goals exact zFr [0,1,2] trivial
  · have hae:=hv.end hk
    have hch:=FT v.2 (n+v.1) hv.a (by omega) hv.d0 (b:=b) (e:=e) (by rw [hb,hae]) hb2 he he2 he3
    unfold inW at hch
    (refine zW qw (z1 (ac [0,2] hch)) trivial (z1 ?_)<;>(repeat with_reducible intro hc))
    all_goals first | (exfalso;omega) | contradiction | skip
    all_goals (
      refine zO ?_ ?_
      · simp (disch:=omega) only [go_sem,aa]
      simp (disch:=omega) only [go_sem,aa]
      exact ag.worldX 3 rfl rfl rfl (by decide) (by simp [bY,ck]) (by simp (disch:=omega) only [go_sem,aa];first | done | exact lL _))
set_option maxHeartbeats 16000000 in
theorem Dd (l:List ADeed) (keep:Int) (hl:∀ d,d∈l→d.wf∧d.request.path.length≤1048576) (hll:l.length≤1048576):ab Tryz.prog [] 5 [.d (.sl 13 (l.map ADeed.row)),I keep] (ret (B true)):=by
  have hp:=oV 26 iR l hl hll
  obtain ⟨n,hn,ha,hd0,hd1⟩:=nC l
  generalize dP dF (l.take 100)=w at hp ha hd0 hd1
  have hpk:=Bn keep 300 (by decide) (by decide)
  have hpr:=rg keep (n:=300) (by decide)
  generalize mC keep ((300:Nat):Int)=kp at hpk hpr
  have hpk:ab Tryz.prog [] 28 [I keep,I 300] (ret (I kp)):=hpk
  have hfw:=ha.few
  obtain ⟨a,rfa⟩:∃ a,a=eI kp [0,1,2] w:=⟨_,rfl⟩
  obtain ⟨b,rfb⟩:∃ b,b=kE [0,1,2] a.1:=⟨_,rfl⟩
  obtain ⟨e,rfe⟩:∃ e,e=doW b.1 ba:=⟨_,rfl⟩
  have hkept:=ha.1.elim fun g hg=>hg.elim fun es hes=>hes.elim fun K h=>h.kept (by omega) (by omega) hpr.1 rfa rfb rfe
  obtain ⟨k1,k2,k3,k4,k5,k6,k7⟩:=hkept
  have hfr:=Jf w n kp ha (by omega) hd0 hpr rfa k1 rfb k2 rfe k3 ⟨k4,k5⟩
  obtain ⟨m1,hm1,hw1⟩:=bH.downs (keep:=kp) [0,1,2] ha (by simp only [List.length_cons,List.length_nil];omega)
  rw [←rfa] at hw1
  obtain ⟨m2,hm2,hw2⟩:=bH.ups [0,1,2] hw1 (by simp only [List.length_cons,List.length_nil] at hm1 ⊢;omega)
  rw [←rfb] at hw2
  simp only [List.length_cons,List.length_nil] at hm1 hm2
  have hae:=hw2.does (by omega) ba
  rw [←rfe] at hae
  have hak:=vn w (by omega)
  have hak2:=vn e.1 (by rw [k6];omega)
  have hsm:=qt w.done (by omega)
  unfold inW at hp hfr hak hak2
  rw [k6] at hfr hak2
  refine zJ Tryz.func5 Tryz.ntmps5 Tryz.results5 ?_;simp only [go_sem]
  (refine zW qw (z4 hp (ac [0,1] hak) hpk (ac [0,1] hfr)) trivial (z1 ?_)<;>(repeat with_reducible intro hc))
  all_goals first | (exfalso;omega) | contradiction | skip
  refine AWP.loopB (ι:=Nat) (fun v=>v≤3) (fun v=>3 - v) [5,7,8] (fun v=>[(9,I v)]) (fun v=>[.cells (wC (cw e.1) 2),.dead,.rows 7 (w.done.map ATxn.row)]) 0 ?_ ?_ ?_
  · omega
  · simp only [go_sem];exact zFr [0,1,2] trivial
  intro v hv
  simp only [go_sem]
  by_cases hk:v < 3
  · obtain ⟨q1,q2,q3⟩:=k7 v hk
    have hs1:=(hae.server (by omega) hk).1
    have hs2:=(hae.server (by omega) (show e.1.leader.toNat < 3 by omega)).1
    have hsv:=e8 e.1 v hk hs1 v rfl
    have hsl:=e8 e.1 e.1.leader.toNat (by omega) hs2 e.1.leader (by omega)
    unfold inW at hsv hsl
    rw [k6] at hsv hsl
    have hl7:=hs1.2.2.1.2.2.1.1
    have hwi:=xU w.done (e.1.s v).peer.log q1 (by have:=hae.log hk;omega)
    have hs3:=qt (e.1.s v).peer.log hl7
    generalize e.1.s v=s1 at *
    generalize e.1.s e.1.leader.toNat=s2 at *
    (refine zW qw (zc qTk1 (z4 (ac [0,2] hsv) (ac [0,2] hsl) hwi hs3)) (zx @q2 (Eq.symm q3)) (z2 ?_ ?_)<;>(repeat with_reducible intro hc))
    all_goals first | (exfalso;omega) | contradiction | skip
    all_goals refine ⟨v+1,by omega,by omega,?_⟩
    all_goals exact zFr [0,1,2] trivial
  · (refine zW qw (z2 (ac [0,2] hak2) hsm) trivial (z1 ?_)<;>(repeat with_reducible intro hc))
    all_goals first | (exfalso;omega) | contradiction | skip
    all_goals exact zEe trivial
theorem DQ (dss:List (List DV)) (h:eZ T 6 Tryz.f5.params.toList dss) (hs:∀ cs,cs∈dss→∀ c,c∈cs→SmallD 1048576 c):ab Tryz.prog [] 5 (fp T Tryz.f5.params.toList dss) (fun v _=>v=B true):=by
  rw [Tryz.params5] at h ⊢
  simp only [List.toList_toArray,eZ] at h
  obtain ⟨c0,d0,rfl,h0,c1,d1,rfl,h1,rfl⟩:=h
  have s0:=hs c0 (by simp)
  have s1:=hs c1 (by simp)
  obtain ⟨l,rfl,v_l,w_l⟩:=u5 (m:=5) (e:=30) (sz:=13) (by_:=120) (f:=ADeed.row) (wf:=ADeed.wf) (by simp only [pj,mK]) (by simp only [mQ,kK]) (by simp only [mQ,kK]) (fun r hr=>dW (m:=2) hr) h0
  obtain ⟨keep,rfl,w_keep⟩:=fO (m:=5) (by simp only [T_3,ty3]) h1
  have u_l:=s0
  have u_keep:=s1
  simp only [List.toList_toArray,fp,tv,TI.agg_mk,T_3,ty3,pj,mK]
  exact (Dd l keep (fun d hd=>⟨w_l d hd,((u_l (DV.sl 13 (l.map ADeed.row)) (by simp)).rows.2 _ (List.mem_map_of_mem hd) (DV.str d.request.path) (by simp [ADeed.row])).len⟩) (by simpa using (u_l (DV.sl 13 (l.map ADeed.row)) (by simp)).rows.1)).mono fun _ _ h=>h.1
def svA (f:Nat→AServer):List AV:=svC (f 0)++(svC (f 1)++svC (f 2))
def clA (f:Nat→AClient):List AV:=clC (f 0)++(clC (f 1)++(clC (f 2)++(clC (f 3)++(clC (f 4)++(clC (f 5)++(clC (f 6)++(clC (f 7)++(clC (f 8)++(clC (f 9)++(clC (f 10)++(clC (f 11)++(clC (f 12)++(clC (f 13)++(clC (f 14)++(clC (f 15))))))))))))))))
theorem KR (f:Nat→AServer):(svA f).length=30:=rfl
theorem Ku (f:Nat→AClient):(clA f).length=48:=rfl
theorem GB (f:Nat→AServer):List.take 30 (svA f)=svA f:=rfl
theorem Fn (f:Nat→AClient):List.take 48 (clA f)=clA f:=rfl
theorem HO (f:Nat→AServer):List.drop 30 (svA f)=[]:=rfl
theorem FO (f:Nat→AClient):List.drop 48 (clA f)=[]:=rfl
theorem LL (f:Nat→AServer) (i:Nat) (h:i < 3):List.take 10 (List.drop (i*10) (svA f))=[.d (.bool (f i).up),.d (.sl 3 ((f i).disk.files.map AFile.row)),I (f i).peer.id,I (f i).peer.epoch,.d (.sl 7 ((f i).peer.log.map ATxn.row)),I (f i).peer.done,I (f i).tree.zxid,.d (.sl 9 ((f i).tree.nodes.map ANode.row)),.d (.sl 1 ((f i).tree.sessions.map cO)),.d (.sl 3 ((f i).watches.map AWatch.row))]:=by
  rcases i with _ | _ | _ | i<;>first | rfl | omega
theorem LI (f:Nat→AClient) (i:Nat) (h:i < 16):List.take 3 (List.drop (i*3) (clA f))=[I (f i).session,I (f i).seen,.d (.sl 3 ((f i).cache.map AEntry.row))]:=by
  rcases i with _ | _ | _ | _ | _ | _ | _ | _ | _ | _ | _ | _ | _ | _ | _ | _ | i<;>first | rfl | omega
theorem GV (f:Nat→AServer) (i:Nat) (h:i < 3):List.take 3 (List.drop (i*10+6) (svA f))=[I (f i).tree.zxid,.d (.sl 9 ((f i).tree.nodes.map ANode.row)),.d (.sl 1 ((f i).tree.sessions.map cO))]:=by
  rcases i with _ | _ | _ | i<;>first | rfl | omega
theorem Lx (f:Nat→AServer) (i:Nat) (h:i < 3):(svA f).getD (i*10) .any=B (f i).up:=by
  rcases i with _ | _ | _ | i<;>first | rfl | omega
theorem Me (f:Nat→AServer) (i:Nat) (h:i < 3):(svA f).getD (i*10+6) .any=I (f i).tree.zxid:=by
  rcases i with _ | _ | _ | i<;>first | rfl | omega
theorem Iu (f:Nat→AClient) (i:Nat) (h:i < 16):(clA f).getD (i*3+1) .any=I (f i).seen:=by
  rcases i with _ | _ | _ | _ | _ | _ | _ | _ | _ | _ | _ | _ | _ | _ | _ | _ | i<;>first | rfl | omega
theorem Et (f:Nat→AClient) (i:Nat) (h:i < 16):(clA f).getD (i*3+2) .any=.d (.sl 3 ((f i).cache.map AEntry.row)):=by
  rcases i with _ | _ | _ | _ | _ | _ | _ | _ | _ | _ | _ | _ | _ | _ | _ | _ | i<;>first | rfl | omega
def DF {α:Type} (f:Nat→α) (i:Nat) (x:α):Nat→α:=fun j=>if j=i then x else f j
theorem JE (f:Nat→AServer) (i:Nat) (h:i < 3) (up:Bool) (d:List AFile) (id ep:Int) (log:List ATxn) (done tz:Int) (nd:List ANode) (se:List Int) (wt:List AWatch):List.take (i*10) (svA f)++[.d (.bool up),.d (.sl 3 (d.map AFile.row)),.d (.int .i64 id),.d (.int .i64 ep),.d (.sl 7 (log.map ATxn.row)),.d (.int .i64 done),.d (.int .i64 tz),.d (.sl 9 (nd.map ANode.row)),.d (.sl 1 (se.map cO)),.d (.sl 3 (wt.map AWatch.row))]++List.drop (i*10+10) (svA f)=svA (DF f i ⟨up,⟨d⟩,⟨id,ep,log,done⟩,⟨tz,nd,se⟩,wt⟩):=by
  rcases i with _ | _ | _ | i<;>first | rfl | omega
theorem IW (f:Nat→AClient) (i:Nat) (h:i < 16) (a b:Int) (l:List AEntry):List.take (i*3) (clA f)++[.d (.int .i64 a),.d (.int .i64 b),.d (.sl 3 (l.map AEntry.row))]++List.drop (i*3+3) (clA f)=clA (DF f i ⟨a,b,l⟩):=by
  rcases i with _ | _ | _ | _ | _ | _ | _ | _ | _ | _ | _ | _ | _ | _ | _ | _ | i<;>first | rfl | omega
theorem svA_z:svA (fun _=>zS)=[.d (.bool false),.d (.sl 3 []),I 0,I 0,.d (.sl 7 []),I 0,I 0,.d (.sl 9 []),.d (.sl 1 []),.d (.sl 3 []),.d (.bool false),.d (.sl 3 []),I 0,I 0,.d (.sl 7 []),I 0,I 0,.d (.sl 9 []),.d (.sl 1 []),.d (.sl 3 []),.d (.bool false),.d (.sl 3 []),I 0,I 0,.d (.sl 7 []),I 0,I 0,.d (.sl 9 []),.d (.sl 1 []),.d (.sl 3 [])]:=rfl
theorem K8:clA (fun _=>zC)=[I 0,I 0,.d (.sl 3 []),I 0,I 0,.d (.sl 3 []),I 0,I 0,.d (.sl 3 []),I 0,I 0,.d (.sl 3 []),I 0,I 0,.d (.sl 3 []),I 0,I 0,.d (.sl 3 []),I 0,I 0,.d (.sl 3 []),I 0,I 0,.d (.sl 3 []),I 0,I 0,.d (.sl 3 []),I 0,I 0,.d (.sl 3 []),I 0,I 0,.d (.sl 3 []),I 0,I 0,.d (.sl 3 []),I 0,I 0,.d (.sl 3 []),I 0,I 0,.d (.sl 3 []),I 0,I 0,.d (.sl 3 []),I 0,I 0,.d (.sl 3 [])]:=rfl
theorem JN (r:Nat→Nat) (f:Nat→AServer):renL r (svA f)=svA f:=rfl
theorem JA (r:Nat→Nat) (f:Nat→AClient):renL r (clA f)=clA f:=rfl
theorem Mq (n:Nat) (f:Nat→AServer):inL n (svA f)=True:=by
  refine eq_true ?_
  unfold svA svC
  simp only [List.cons_append,List.nil_append,inL,inV,and_self]
theorem LS (n:Nat) (f:Nat→AClient):inL n (clA f)=True:=by
  refine eq_true ?_
  unfold clA clC
  simp only [List.cons_append,List.nil_append,inL,inV,and_self]
theorem JC (cs:List AV) (f:Nat→AServer):spl cs (svA f) 0=svA f++cs.drop 30:=by
  show cs.take 0++svA f++cs.drop (0+30)=_
  rw [List.take_zero,List.nil_append]
theorem KF (cs:List AV) (f:Nat→AClient):spl cs (clA f) 0=clA f++cs.drop 48:=by
  show cs.take 0++clA f++cs.drop (0+48)=_
  rw [List.take_zero,List.nil_append]
attribute [go_sem high] JC KF
attribute [go_sem] KR Ku GB Fn HO FO LL LI GV Lx Me Iu Et JE IW JN JA Mq LS
def fU {α:Type} (f:Nat→α) (z:α) (k:Nat):Nat→α:=fun j=>if j < k then f j else z
theorem pM {α:Type} (f:Nat→α) (z:α):fU f z 0=fun _=>z:=funext fun j=>if_neg (Nat.not_lt_zero j)
theorem pV {α:Type} (f:Nat→α) (z:α) (k:Nat):DF (fU f z k) k (f k)=fU f z (k+1):=funext fun j=>by
  unfold DF fU
  by_cases e:j=k
  · subst e;rw [if_pos rfl,if_pos (Nat.lt_succ_self j)]
  · rw [if_neg e]
    by_cases h:j < k
    · rw [if_pos h,if_pos (by omega)]
    · rw [if_neg h,if_neg (by omega)]
theorem Eg (f:Nat→AServer):svA (fU f zS 3)=svA f:=rfl
theorem C5 (f:Nat→AClient):clA (fU f zC 16)=clA f:=rfl
set_option maxHeartbeats 16000000 in
theorem FM (w:AWorld) (n:Nat) (ha:bH w n) (hn:n < 1000):ab Tryz.prog (inW w) 40 [.ptr 0 0] (cu (.tup [.agg (svA w.s),.agg (clA w.c)]) (inW w)):=by
  unfold inW
  refine zJ Tryz.func40 Tryz.ntmps40 Tryz.results40 ?_;simp only [go_sem]
  (refine zW qw zn trivial (z1 ?_)<;>(repeat with_reducible intro hc))
  all_goals first | (exfalso;omega) | contradiction | skip
  refine AWP.weaken (aG.trans (aG.coeB (cs':=svA (fun _=>zS)) 2 rfl (by rw [svA_z];simp (disch:=omega) only [go_sem,aa])) (aG.trans (aG.coeB (cs':=clA (fun _=>zC)) 3 rfl (by rw [K8];simp (disch:=omega) only [go_sem,aa])) (aG.trans (aG.coeB (cs':=svA (fun _=>zS)) 4 rfl (by rw [svA_z];simp (disch:=omega) only [go_sem,aa])) (aG.coeB (cs':=clA (fun _=>zC)) 5 rfl (by rw [K8];simp (disch:=omega) only [go_sem,aa]))))) ?_
  simp only [go_sem]
  refine AWP.loopB (ι:=Nat) (fun v=>v≤3) (fun v=>3 - v) [0,2,3,4,5] (fun v=>[(6,I v)]) (fun v=>[.cells (wC (cw w) 1),.rows 7 (w.done.map ATxn.row),.cells (svA (fun _=>zS)),.cells (clA (fun _=>zC)),.cells (svA (fU w.s zS v)),.cells (clA (fun _=>zC))]) 0 ?_ ?_ ?_
  · omega
  · simp only [go_sem,pM];exact zFr [0,1,2,3,4,5] trivial
  intro v hv
  simp only [go_sem]
  by_cases hk:v < 3
  · have hs:=(ha.server hn hk).1
    have hsv:=e8 w v hk hs v rfl
    unfold inW at hsv
    have hfs:DF (fU w.s zS v) v ⟨(w.s v).up,⟨(w.s v).disk.files⟩,⟨(w.s v).peer.id,(w.s v).peer.epoch,(w.s v).peer.log,(w.s v).peer.done⟩,⟨(w.s v).tree.zxid,(w.s v).tree.nodes,(w.s v).tree.sessions⟩,(w.s v).watches⟩=fU w.s zS (v+1):=pV w.s zS v
    (refine zW qw (z1 (ac [0,1] hsv)) @hfs (z1 ?_)<;>(repeat with_reducible intro hc))
    all_goals first | (exfalso;omega) | contradiction | skip
    all_goals refine ⟨v+1,by omega,by omega,?_⟩
    all_goals exact zFr [0,1,2,3,4,5] @hfs
  obtain rfl:v=3:=by omega
  (refine zW qw zn trivial (z1 ?_)<;>(repeat with_reducible intro hc))
  all_goals first | (exfalso;omega) | contradiction | skip
  clear hv hk
  refine AWP.loopB (ι:=Nat) (fun v=>v≤16) (fun v=>16 - v) [0,2,3,4,5] (fun v=>[(7,I v)]) (fun v=>[.cells (wC (cw w) 1),.rows 7 (w.done.map ATxn.row),.cells (svA (fun _=>zS)),.cells (clA (fun _=>zC)),.cells (svA (fU w.s zS 3)),.cells (clA (fU w.c zC v))]) 0 ?_ ?_ ?_
  · omega
  · simp only [go_sem,pM];exact zFr [0,1,2,3,4,5] trivial
  intro v hv
  simp only [go_sem]
  by_cases hk:v < 16
  · have hs:=(ha.client hn hk).1
    have hsv:=D6 w v hk hs v rfl
    unfold inW at hsv
    have hfs:DF (fU w.c zC v) v ⟨(w.c v).session,(w.c v).seen,(w.c v).cache⟩=fU w.c zC (v+1):=pV w.c zC v
    (refine zW qw (z1 (ac [0,1] hsv)) @hfs (z1 ?_)<;>(repeat with_reducible intro hc))
    all_goals first | (exfalso;omega) | contradiction | skip
    all_goals refine ⟨v+1,by omega,by omega,?_⟩
    all_goals exact zFr [0,1,2,3,4,5] @hfs
  obtain rfl:v=16:=by omega
  rw [Eg,C5]
  (repeat' first
| (with_reducible refine AR.f ?_)
| refine an (by decide) ?_
| (with_reducible refine AWP.cond rfl ?_ ?_<;>intro hc<;>(try simp only [hcs,beq_iff_eq,ge_iff_le,gt_iff_lt] at hc))
| ((first | ((first | refine zP ((Plan.takes [0] (.fork 1 (Plan.takes [2,3] .done) 2 (Plan.takes [1,3] .done)))) (by decide +kernel) ?_ | (with_reducible first | refine zR ?_ | refine zQ (by decide +kernel) ?_ | refine zD (by decide +kernel) ?_ | refine zE (by decide +kernel) ?_ | refine zG (by decide +kernel) ?_));intro K hK) | ((first | (with_reducible refine aunder_i ?_ ?_<;>intro hg) | with_reducible intro hg)<;>(first | (exfalso;simp at hg;done) | (have hg':=hg;(try simp only [hcs,beq_iff_eq,ge_iff_le,gt_iff_lt] at hg');(try simp only [hg])))))<;>(try simp (disch:=omega) only [go_sem,aa])<;>(repeat' with_reducible refine And.intro ?_ ?_)<;>(try (with_reducible refine hK _ ?_;clear hK K)))
| omega)
  all_goals first | (exfalso;omega) | contradiction | skip
  all_goals (refine zO ?_ ?_;(focus ((try simp (disch:=omega) only [go_sem,aa])<;>fail));simp (disch:=omega) only [go_sem,aa];refine ag.of_simp ?_ (ag.same ⟨rfl,rfl⟩);refine zV [0,1] rfl rfl rfl rfl ?_ ?_<;>simp (disch:=omega) only [go_sem,aa,true_or,or_true])
theorem NR:Pls [Plan.takes [0,1,2,3,4,5,6,7] .done,Plan.takes [0,1,2,3,4,5,6,7] .done]:=pls _
theorem od:∀ (l:List ADeed) {w:AWorld},w.deeds+l.length≤300→(dP w l).deeds=w.deeds+l.length
  | [],w,_=>by show w.deeds=w.deeds+((0:Nat):Int);omega
  | d::l,w,h=>by
    rw [List.length_cons] at h ⊢
    have h1:=wP (w:=w) (by omega) d
    have:=od l (w:=(doW w d).1) (by omega)
    show (dP (doW w d).1 l).deeds=_
    rw [this];omega
def wd (w:AWorld) (v:Nat):AWorld:={ w with deeds:=(v:Int) }
theorem KJ {w:AWorld} {v:Nat} (h:w.deeds=v):wd w v=w:=by
  unfold wd;rw [←h]
theorem M1 (w:AWorld) {v:Nat} (h:v < 300):doW (wd w v) sa=(wd w (v+1),noR 4):=by
  rw [KH (w:=wd w v) (by show (v:Int) < 300;omega)]
  rfl
theorem A1 {w:AWorld} {n:Nat} (h:bH w n) (v:Nat):bH (wd w v) n:=h.deed v
set_option maxHeartbeats 16000000 in
theorem Di (l:List ADeed) (d:ADeed) (hl:∀ d,d∈l→d.wf∧d.request.path.length≤1048576) (hll:l.length≤1048576) (hdw:d.wf) (hdp:d.request.path.length≤1048576):ab Tryz.prog [] 11 [.d (.sl 13 (l.map ADeed.row)),d.av] (ret (B true)):=by
  have hp:=oV 26 iR l hl hll
  obtain ⟨n,hn,ha,hd0,hd1⟩:=nC l
  have hct:=od (l.take 100) (w:=dF) (by show (0:Int)+_≤300;rw [List.length_take];omega)
  have hm:((l.take 100).length:Int)=min (l.length:Int) 100:=by rw [List.length_take];omega
  have hm2:(l.take 100).length≤100:=by rw [List.length_take];omega
  generalize (l.take 100).length=m at hct hm hm2
  generalize dP dF (l.take 100)=w at hp ha hd0 hd1 hct
  have hwm:wd w m=w:=KJ (by rw [hct];show (0:Int)+_=_;omega)
  have hal:=FM (wd w 300) n (A1 ha 300) (by omega)
  have hld:=lO (wd w 300)
  have hdo:=nA (wd w 300) d n (A1 ha 300) (by omega) (by show (0:Int)≤300;decide) hdw hdp
  rw [B8 (by show (300:Int)≤300;decide)] at hdo
  have hsr:=vX ⟨6,0,[],[],⟨0,0,0,0,0,0,0⟩,[]⟩ (by decide)
  have hdo:ab Tryz.prog (inW (wd w 300)) 17 [.ptr 0 0,d.av] (cu (.agg [I 6,I 0,S [],S [],I 0,I 0,I 0,I 0,I 0,I 0,I 0,.osl 3 3 0 0]) [.cells (wC (cw (wd w 300)) 2),.dead,.rows 7 (w.done.map ATxn.row),.rows 3 []]):=hdo
  have hal:ab Tryz.prog [.cells (wC (cw (wd w 300)) 1),.rows 7 (w.done.map ATxn.row)] 40 [.ptr 0 0] (cu (.tup [.agg (svA w.s),.agg (clA w.c)]) [.cells (wC (cw (wd w 300)) 1),.rows 7 (w.done.map ATxn.row)]):=hal
  have hld:ab Tryz.prog [.cells (wC (cw (wd w 300)) 1),.rows 7 (w.done.map ATxn.row)] 18 [.ptr 0 0] (cu (I w.leader) [.cells (wC (cw (wd w 300)) 1),.rows 7 (w.done.map ATxn.row)]):=hld
  have hdo:ab Tryz.prog [.cells (wC (cw (wd w 300)) 1),.rows 7 (w.done.map ATxn.row)] 17 [.ptr 0 0,d.av] (cu (.agg [I 6,I 0,S [],S [],I 0,I 0,I 0,I 0,I 0,I 0,I 0,.osl 3 3 0 0]) [.cells (wC (cw (wd w 300)) 2),.dead,.rows 7 (w.done.map ATxn.row),.rows 3 []]):=hdo
  unfold inW at hp
  refine zJ Tryz.func11 Tryz.ntmps11 Tryz.results11 ?_;simp only [go_sem]
  (refine zW qw (z1 hp) trivial (z1 ?_)<;>(repeat with_reducible intro hc))
  all_goals first | (exfalso;omega) | contradiction | skip
  have hmi:(if (100:Int) < (l.length:Int) then (100:Int) else (l.length:Int))=(m:Int):=by split<;>omega
  refine AWP.loopB (ι:=Nat) (fun v=>m≤v∧v≤300) (fun v=>300 - v) [3,5] (fun v=>[(7,I v)]) (fun v=>[.cells [I d.kind,I d.client,I d.server,I d.request.op,I d.request.session,S d.request.path,S d.request.data,I d.request.version,I d.request.flags,I d.lost,I d.slow,I d.keep,B d.watch],.cells (wC (cw (wd w v)) 2),.rows 7 (w.done.map ATxn.row)]) m ?_ ?_ ?_
  · omega
  · simp only [go_sem];exact zFr [0,1,2] (zx @hmi @hwm)
  intro v hv
  simp only [go_sem]
  by_cases hk:v < 300
  · have hno:=nA (wd w v) sa n (A1 ha v) (by omega) (by show (0:Int)≤(v:Int);omega) (by unfold sa ADeed.wf ARequest.wf okI okS;decide) (by decide)
    rw [M1 w hk] at hno
    have hno:ab Tryz.prog [.cells (wC (cw (wd w v)) 1),.rows 7 (w.done.map ATxn.row)] 17 [.ptr 0 0,ADeed.av ⟨0,0,0,⟨0,0,[],[],0,0⟩,0,0,0,false⟩] (cu (.agg [I 4,I 0,S [],S [],I 0,I 0,I 0,I 0,I 0,I 0,I 0,.osl 3 3 0 0]) [.cells (wC (cw (wd w (v+1))) 2),.dead,.rows 7 (w.done.map ATxn.row),.rows 3 []]):=hno
    (refine zW qw (z1 (ad [1,2] hno)) trivial (z1 ?_)<;>(repeat with_reducible intro hc))
    all_goals first | (exfalso;omega) | contradiction | skip
    all_goals refine ⟨v+1,by omega,by omega,?_⟩
    all_goals exact zFr [0,1,3] trivial
  obtain rfl:v=300:=by omega
  (refine zW qw (zc (ac [1,2] hal) (zc (ac [1,5] hal) (z4 (ac [1,2] hld) (ac [1,5] hld) (ad [1,2] hdo) hsr))) trivial (z1 ?_)<;>(repeat with_reducible intro hc))
  all_goals first | (exfalso;omega) | contradiction | skip
  all_goals (
    refine AWP.loopB (ι:=Nat) (fun v=>v≤3) (fun v=>3 - v) [8,9,11,12] (fun v=>[(13,I v)]) (fun v=>[.cells [I d.kind,I d.client,I d.server,I d.request.op,I d.request.session,S d.request.path,S d.request.data,I d.request.version,I d.request.flags,I d.lost,I d.slow,I d.keep,B d.watch],.cells (wC (cw (wd w 300)) 5),.dead,.cells (svA w.s),.cells (clA w.c),.rows 7 (w.done.map ATxn.row),.dead,.cells (svA w.s),.cells (clA w.c)]) 0 ?_ ?_ ?_
    · omega
    · simp only [go_sem];exact zFr [0,1,2,3,4,5,6,7,8] trivial
    intro v hv
    simp only [go_sem]
    by_cases hk:v < 3
    · have hss:=mh (w.s v) (ha.server (by omega) hk).1
      (refine zW qw (z2 NR hss) trivial (z1 ?_)<;>(repeat with_reducible intro hc))
      all_goals first | (exfalso;omega) | contradiction | skip
      all_goals refine ⟨v+1,by omega,by omega,?_⟩
      all_goals exact zFr [0,1,2,3,4,5,6,7,8] trivial
    obtain rfl:v=3:=by omega
    (refine zW qw zn trivial (z1 ?_)<;>(repeat with_reducible intro hc))
    all_goals first | (exfalso;omega) | contradiction | skip
    clear hv hk
    refine AWP.loopB (ι:=Nat) (fun v=>v≤16) (fun v=>16 - v) [9,12] (fun v=>[(14,I v)]) (fun v=>[.cells [I d.kind,I d.client,I d.server,I d.request.op,I d.request.session,S d.request.path,S d.request.data,I d.request.version,I d.request.flags,I d.lost,I d.slow,I d.keep,B d.watch],.cells (wC (cw (wd w 300)) 5),.dead,.cells (svA w.s),.cells (clA w.c),.rows 7 (w.done.map ATxn.row),.dead,.cells (svA w.s),.cells (clA w.c)]) 0 ?_ ?_ ?_
    · omega
    · simp only [go_sem];exact zFr [0,1,2,3,4,5,6,7,8] trivial
    intro v hv
    simp only [go_sem]
    by_cases hk:v < 16
    · have hss:=mg (w.c v) (by have:=(ha.cache (by omega) hk).1;omega)
      (refine zW qw (z2 NR hss) trivial (z1 ?_)<;>(repeat with_reducible intro hc))
      all_goals first | (exfalso;omega) | contradiction | skip
      all_goals refine ⟨v+1,by omega,by omega,?_⟩
      all_goals exact zFr [0,1,2,3,4,5,6,7,8] trivial
    · (refine zW qw zn trivial (z1 ?_)<;>(repeat with_reducible intro hc))
      all_goals first | (exfalso;omega) | contradiction | skip
      all_goals exact zEe trivial)
theorem Dh (dss:List (List DV)) (h:eZ T 6 Tryz.f11.params.toList dss) (hs:∀ cs,cs∈dss→∀ c,c∈cs→SmallD 1048576 c):ab Tryz.prog [] 11 (fp T Tryz.f11.params.toList dss) (fun v _=>v=B true):=by
  rw [Tryz.params11] at h ⊢
  simp only [List.toList_toArray,eZ] at h
  obtain ⟨c0,d0,rfl,h0,c1,d1,rfl,h1,rfl⟩:=h
  have s0:=hs c0 (by simp)
  have s1:=hs c1 (by simp)
  obtain ⟨l,rfl,v_l,w_l⟩:=u5 (m:=5) (e:=30) (sz:=13) (by_:=120) (f:=ADeed.row) (wf:=ADeed.wf) (by simp only [pj,mK]) (by simp only [mQ,kK]) (by simp only [mQ,kK]) (fun r hr=>dW (m:=2) hr) h0
  obtain ⟨d,rfl,w_d⟩:=dW (m:=3) h1
  have u_l:=s0
  have u_d:=s1
  simp only [List.toList_toArray,fp,tv,TI.agg_mk,pj,mK,mQ,kK]
  exact (Di l d (fun d hd=>⟨w_l d hd,((u_l (DV.sl 13 (l.map ADeed.row)) (by simp)).rows.2 _ (List.mem_map_of_mem hd) (DV.str d.request.path) (by simp [ADeed.row])).len⟩) (by simpa using (u_l (DV.sl 13 (l.map ADeed.row)) (by simp)).rows.1) w_d (u_d (DV.str d.request.path) (by simp [ADeed.row])).len).mono fun _ _ h=>h.1
theorem Mu:Pls [Plan.takes [0,1,2,3,4,5,6,7] .done,Plan.takes [0,1,2,3,4,5,6,7,8,9,10,11,12] .done]:=pls _
set_option maxHeartbeats 16000000 in
theorem zZ (l:List ADeed) (who server:Int) (p:List UInt8) (hl:∀ d,d∈l→d.wf∧d.request.path.length≤1048576) (hll:l.length≤1048576) (hwp:okS p) (hp8:p.length≤1048576):ab Tryz.prog [] 9 [.d (.sl 13 (l.map ADeed.row)),I who,I server,S p] (ret (B true)):=by
  have hp:=oV 26 iR l hl hll
  obtain ⟨n,hn,ha,hd0,hd1⟩:=nC l
  generalize dP dF (l.take 100)=w at hp ha hd0 hd1
  have hk1:=Bn who 16 (by decide) (by decide)
  have ho1:=rg who (n:=16) (by decide)
  have hk2:=Bn server 3 (by decide) (by decide)
  have ho2:=rg server (n:=3) (by decide)
  have hk1:ab Tryz.prog [] 28 [I who,I 16] (ret (I (mC who ((16:Nat):Int)))):=hk1
  have hk2:ab Tryz.prog [] 28 [I server,I 3] (ret (I (mC server ((3:Nat):Int)))):=hk2
  generalize mC who ((16:Nat):Int)=c at hk1 ho1
  generalize mC server ((3:Nat):Int)=s at hk2 ho2
  obtain ⟨c,rfl⟩:∃ k:Nat,c=(k:Int):=⟨c.toNat,by omega⟩
  obtain ⟨s,rfl⟩:∃ k:Nat,s=(k:Int):=⟨s.toNat,by omega⟩
  have hc:c < 16:=by omega
  have hs:s < 3:=by omega
  have z:okI 0:=by unfold okI;decide
  have y:okS []:=by unfold okS;decide
  have hdo:=nA w (fy c s p) n ha (by omega) hd0 ⟨by show okI 2;unfold okI;decide,by show okI (c:Int);unfold okI;omega,by show okI (s:Int);unfold okI;omega,⟨z,z,hwp,y,z,z⟩,z,z,z,trivial⟩ hp8
  have hrd:=fun u r=>@Kj w (by omega) c s hc hs ha.wl.cl p u r
  have hau:=ha.does (by omega) (fy c s p)
  have hal:=FM w n ha (by omega)
  have hsr:=ha.server (by omega) hs
  have hgt:=iT (w.s s).tree p hsr.2.1.1.2.1.1 (aT hsr.2.2.1)
  unfold fy at hdo hrd hau
  generalize doW w ⟨2,(c:Int),(s:Int),⟨0,0,p,[],0,0⟩,0,0,0,false⟩=R at hdo hrd hau
  obtain ⟨u,r⟩:=R
  obtain ⟨r1,r2,r3,r4,r5⟩:=hrd u r rfl
  have hal2:=FM u (n+1) hau (by omega)
  have e1:u.s=w.s:=funext r1
  unfold inW cH avN at hdo
  unfold inW at hp hal hal2
  simp only at hdo
  rw [e1] at hal2
  refine zJ Tryz.func9 Tryz.ntmps9 Tryz.results9 ?_;simp only [go_sem]
  (refine zW qw (zc hp (zc hk1 (z4 hk2 (ac [0,1] hal) (ac [0,4] hal2) (ad [0,1] hdo)))) trivial (z1 ?_)<;>(repeat with_reducible intro hc))
  all_goals first | (exfalso;omega) | contradiction | skip
  all_goals (
    refine AWP.loopB (ι:=Nat) (fun v=>v≤3) (fun v=>3 - v) [1,2,3,11,12,13,14,15] (fun v=>[(16,I v)]) (fun v=>[.cells (wC (cw u) 4),.dead,.cells (svA w.s),.cells (clA w.c),.rows 7 (u.done.map ATxn.row),.dead,.cells [I r.code,I r.zxid,S r.path,S r.data,I r.stat.czxid,I r.stat.mzxid,I r.stat.pzxid,I r.stat.version,I r.stat.cversion,I r.stat.owner,I r.stat.kids,.d (.sl 3 (r.notes.map ANote.row))],.cells (svA w.s),.cells (clA u.c)]) 0 ?_ ?_ ?_
    · omega
    · simp only [go_sem];exact zFr [0,1,2,3,4,5,6,7,8] trivial
    intro v hv
    simp only [go_sem]
    by_cases hk:v < 3
    · have hss:=mh (w.s v) (ha.server (by omega) hk).1
      (refine zW qw (z2 Mu hss) trivial (z1 ?_)<;>(repeat with_reducible intro hc))
      all_goals first | (exfalso;omega) | contradiction | skip
      all_goals refine ⟨v+1,by omega,by omega,?_⟩
      all_goals exact zFr [0,1,2,3,4,5,6,7,8] trivial
    obtain rfl:v=3:=by omega
    (refine zW qw zn trivial (z1 ?_)<;>(repeat with_reducible intro hc))
    all_goals first | (exfalso;omega) | contradiction | skip
    clear hv hk
    refine AWP.loopB (ι:=Nat) (fun v=>v≤16) (fun v=>16 - v) [1,2,3,11,12,13,15] (fun v=>[(17,I v)]) (fun v=>[.cells (wC (cw u) 4),.dead,.cells (svA w.s),.cells (clA w.c),.rows 7 (u.done.map ATxn.row),.dead,.cells [I r.code,I r.zxid,S r.path,S r.data,I r.stat.czxid,I r.stat.mzxid,I r.stat.pzxid,I r.stat.version,I r.stat.cversion,I r.stat.owner,I r.stat.kids,.d (.sl 3 (r.notes.map ANote.row))],.cells (svA w.s),.cells (clA u.c)]) 0 ?_ ?_ ?_
    · omega
    · simp only [go_sem];exact zFr [0,1,2,3,4,5,6,7,8] trivial
    intro v hv
    simp only [go_sem]
    by_cases hk:v < 16
    · have hss:=mg (w.c v) (by have:=(ha.cache (by omega) hk).1;omega)
      by_cases hvc:v=c
      · subst hvc
        (refine zW qw (z2 Mu hss) trivial (z1 ?_)<;>(repeat with_reducible intro hc))
        all_goals first | (exfalso;omega) | contradiction | skip
        all_goals refine ⟨v+1,by omega,by omega,?_⟩
        all_goals exact zFr [0,1,2,3,4,5,6,7,8] trivial
      · have hrv:=r2 v hvc
        (refine zW qw (z2 Mu hss) @hrv (z1 ?_)<;>(repeat with_reducible intro hc))
        all_goals first | (exfalso;omega) | contradiction | skip
        all_goals refine ⟨v+1,by omega,by omega,?_⟩
        all_goals exact zFr [0,1,2,3,4,5,6,7,8] trivial
    obtain rfl:v=16:=by omega
    clear hv hk
    by_cases hu:(w.s s).up=true
    case neg=>
      have hu2:(w.s s).up=false:=by simpa using hu
      have q1:=r3 hu2
      (refine zW qw (z1 hgt) (zx @hu2 @q1) (z1 ?_)<;>(repeat with_reducible intro hc))
      all_goals first | (exfalso;omega) | contradiction | skip
      all_goals exact zEe trivial
    by_cases hz:(w.s s).tree.zxid < (w.c c).seen
    · have q1:=r4 hu hz
      (refine zW qw (z1 hgt) (zx @hu @q1) (z1 ?_)<;>(repeat with_reducible intro hc))
      all_goals first | (exfalso;omega) | contradiction | skip
      all_goals exact zEe trivial
    · obtain ⟨q1,q2,q3,q4,q5⟩:=r5 hu hz
      generalize aP (w.s s).tree p=G at hgt q1 q2 q3
      obtain ⟨gn,ge⟩:=G
      simp only at hgt q1 q2 q3
      (refine zW qw (z1 hgt) (zx @hu (zx @q1 (zx @q2 (zx @q3 (zx @q4 @q5))))) (z1 ?_)<;>(repeat with_reducible intro hc))
      all_goals first | (exfalso;omega) | contradiction | skip
      all_goals exact zEe trivial)
theorem y3 (dss:List (List DV)) (h:eZ T 6 Tryz.f9.params.toList dss) (hs:∀ cs,cs∈dss→∀ c,c∈cs→SmallD 1048576 c):ab Tryz.prog [] 9 (fp T Tryz.f9.params.toList dss) (fun v _=>v=B true):=by
  rw [Tryz.params9] at h ⊢
  simp only [List.toList_toArray,eZ] at h
  obtain ⟨c0,d0,rfl,h0,c1,d1,rfl,h1,c2,d2,rfl,h2,c3,d3,rfl,h3,rfl⟩:=h
  have s0:=hs c0 (by simp)
  have s1:=hs c1 (by simp)
  have s2:=hs c2 (by simp)
  have s3:=hs c3 (by simp)
  obtain ⟨l,rfl,v_l,w_l⟩:=u5 (m:=5) (e:=30) (sz:=13) (by_:=120) (f:=ADeed.row) (wf:=ADeed.wf) (by simp only [pj,mK]) (by simp only [mQ,kK]) (by simp only [mQ,kK]) (fun r hr=>dW (m:=2) hr) h0
  obtain ⟨who,rfl,w_who⟩:=fO (m:=5) (by simp only [T_3,ty3]) h1
  obtain ⟨server,rfl,w_server⟩:=fO (m:=5) (by simp only [T_3,ty3]) h2
  obtain ⟨p,rfl,w_p⟩:=Bh (m:=5) (by simp only [T_9,ty9]) h3
  have u_l:=s0
  have u_who:=s1
  have u_server:=s2
  have u_p:=(s3 _ (List.mem_singleton.2 rfl)).len
  simp only [List.toList_toArray,fp,tv,TI.agg_mk,T_3,ty3,T_9,ty9,pj,mK]
  exact (zZ l who server p (fun d hd=>⟨w_l d hd,((u_l (DV.sl 13 (l.map ADeed.row)) (by simp)).rows.2 _ (List.mem_map_of_mem hd) (DV.str d.request.path) (by simp [ADeed.row])).len⟩) (by simpa using (u_l (DV.sl 13 (l.map ADeed.row)) (by simp)).rows.1) w_p u_p).mono fun _ _ h=>h.1
end Go.Proofs.YtjcooccnfkfjhaaGreatDoor
