/- A part of what Tops leans on: texts of this claim, one behind the other. No condition. -/
import Derived.Test.YtjcooccnfkfjhaaGreatDoorTopsK12
namespace Go.Proofs.YtjcooccnfkfjhaaGreatDoor
set_option linter.unusedVariables false
set_option linter.unusedSimpArgs false
open Go Go.RowKit
theorem Cu:Pls [Plan.takes [0,1,2,3,4,6,7,8,9,10,11,12] (.forks 5 (.fork 13 (Plan.takes [14] (.fork 15 (Plan.takes [16,17,18,19,20,21,22,23] .done) 20 (Plan.takes [15,16,17,18,19,21,22,23] .done))) 20 (Plan.takes [13,14,15,16,17,18,19,21,22,23] .done)) 13 (Plan.takes [14] (.fork 5 (.fork 15 (Plan.takes [16,17,18,19,20,21,22,23] .done) 20 (Plan.takes [15,16,17,18,19,21,22,23] .done)) 20 (Plan.takes [5,15,16,17,18,19,21,22,23] .done))) 20 (Plan.takes [5,13,14,15,16,17,18,19,21,22,23] .done)),Plan.takes [0,1,2,3,4,5,6] .done,Plan.takes [0,1,2,3,5] (.fork 4 (Plan.takes [6,7,8,9,10] .done) 6 (Plan.takes [4,7,8,9,10] .done)),Plan.takes [0,1,2,3,4,6] (.forks 5 (.fork 7 (.fork 8 (Plan.takes [9,10,11,12,13,14] .done) 12 (Plan.takes [8,9,10,11,13,14] .done)) 12 (Plan.takes [7,8,9,10,11,13,14] .done)) 7 (.fork 5 (.fork 8 (Plan.takes [9,10,11,12,13,14] .done) 12 (Plan.takes [8,9,10,11,13,14] .done)) 12 (Plan.takes [5,8,9,10,11,13,14] .done)) 12 (Plan.takes [5,7,8,9,10,11,13,14] .done)),Plan.takes [0,1,2,3,4,5,6] .done,Plan.takes [0,1,2,3,5,6,10] (.forks 4 (Plan.takes [7,8] (.forks 9 (.fork 11 (.fork 12 (Plan.takes [13,14,15,16,17,18] .done) 16 (Plan.takes [12,13,14,15,17,18] .done)) 16 (Plan.takes [11,12,13,14,15,17,18] .done)) 11 (.fork 9 (.fork 12 (Plan.takes [13,14,15,16,17,18] .done) 16 (Plan.takes [12,13,14,15,17,18] .done)) 16 (Plan.takes [9,12,13,14,15,17,18] .done)) 16 (Plan.takes [9,11,12,13,14,15,17,18] .done))) 11 (.fork 4 (Plan.takes [7,8] (.fork 9 (.fork 12 (Plan.takes [13,14,15,16,17,18] .done) 16 (Plan.takes [12,13,14,15,17,18] .done)) 16 (Plan.takes [9,12,13,14,15,17,18] .done))) 16 (Plan.takes [4,7,8,9,12,13,14,15,17,18] .done)) 16 (Plan.takes [4,7,8,9,11,12,13,14,15,17,18] .done))]:=pls _
set_option maxRecDepth 100000
structure SG (s:AServer):Prop where
  gs:GS s
  g:aJ s.tree=true
  v:s.watches.length≤400
theorem x9:∀ (X:List ATxn) (p:CSt),okT p.t→aJ p.t=true→(∀ x,x∈X→x.wf∧x.path.length≤1048576)→okT (jg X p).1.t∧aJ (jg X p).1.t=true
  | [],p,h,hg,_=>⟨h,hg⟩
  | x :: X,p,h,hg,hX=>by
    by_cases he:(ar p.t x).2.2=0
    · rw [oR he]
      obtain ⟨x1,x2⟩:=hX x (List.mem_cons_self ..)
      exact x9 X (kw (ar p.t x) p x) (yF h x1 x2) (rL he) fun y hy=>hX y (List.mem_cons_of_mem _ hy)
    · rw [uW he];exact ⟨h,hg⟩
theorem CP {s:AServer} {n:Int} (h:SG s) (hn:okI n) (h0:(aC s n).2.2=0):SG (aC s n).1:=by
  have hsub:=commit_sub s n
  have hX:∀ x,x∈(s.peer.log.drop s.peer.done.toNat).take (n.toNat - s.peer.done.toNat)→x.wf∧x.path.length≤1048576:=fun x hm=>by
    have hm2:=List.mem_of_mem_drop (List.mem_of_mem_take hm)
    exact ⟨h.gs.w.2.2.1.2.2.1.2 x hm2,h.gs.p x hm2⟩
  obtain ⟨a,b⟩:=x9 _ ⟨s.tree,s.watches,[]⟩ h.gs.t h.g hX
  unfold aC at h0 hsub ⊢
  split at h0
  · exact absurd h0 (by decide)
  rename_i hb
  rw [if_neg hb] at hsub ⊢
  simp only at h0 hsub ⊢
  split at h0
  · rename_i hq
    rw [if_pos hq] at hsub ⊢
    simp only at hsub ⊢
    obtain ⟨_,h1,h2,h3,h4⟩:=h.gs.w
    refine ⟨⟨⟨trivial,h1,⟨h2.1,h2.2.1,h2.2.2.1,hn⟩,a.1,⟨?_,fun y hy=>h4.2 y (hsub.subset hy)⟩⟩,a,h.gs.p⟩,b,Nat.le_trans hsub.length_le h.v⟩
    exact Nat.le_trans (Nat.mul_le_mul_right 32 hsub.length_le) h4.1
  · exact absurd h0 (by assumption)
theorem JM {s:AServer} {x:ATxn} {safe:Bool} (h:SG s) (hx:x.wf) (hp:x.path.length≤1048576) (hl:s.peer.log.length≤1048576) (h0:(bo s x safe).2=0):SG (bo s x safe).1:=by
  have hg:=B4 (safe:=safe) h.gs hx hp hl
  have hs:=take_sub s x safe
  refine ⟨hg,?_,Nat.le_trans hs.length_le h.v⟩
  unfold bo at h0 ⊢
  split at h0
  · exact absurd h0 (by decide)
  rename_i h1
  rw [if_neg h1]
  split at h0
  · rename_i h2
    rw [if_pos h2];exact h.g
  · exact absurd h0 (by assumption)
structure CmInv (w:AWorld) (hv:List Nat) (F:AWorld×List ANote×Int) (v:Nat×AWorld×List ANote):Prop where
  k:v.1≤hv.length
  f:bq (hv.drop v.1) v.2.1 v.2.2=F
  l:WL v.2.1
  s:∀ i,i < 3→SG (v.2.1.s i)
  d:v.2.1.done=w.done
  n:v.2.2.length≤400*v.1
  c:v.2.1.cl=w.cl
  ld:v.2.1.leader=w.leader
theorem su (l:List Nat) (k:Nat) (h:k < l.length):l.drop k=l.getD k default::l.drop (k+1):=by
  rw [List.drop_eq_getElem_cons h,List.getD_eq_getElem?_getD,List.getElem?_eq_getElem h];rfl
theorem CmInv.stop {w:AWorld} {hv:List Nat} {F:AWorld×List ANote×Int} {v:Nat×AWorld×List ANote} (h:CmInv w hv F v) (hk:v.1 < hv.length) {j:Nat} (hj:hv.getD v.1 default=j) (hc:(aC (v.2.1.s j) (v.2.1.s j).peer.log.length).2.2≠0) :
    F=(v.2.1,v.2.2,(aC (v.2.1.s j) (v.2.1.s j).peer.log.length).2.2):=by
  have h2:=h.f
  rw [su hv v.1 hk,hj,bq,if_pos hc] at h2
  exact h2.symm
theorem CmInv.next {w:AWorld} {hv:List Nat} {F:AWorld×List ANote×Int} {v:Nat×AWorld×List ANote} (h:CmInv w hv F v) (hk:v.1 < hv.length) {j:Nat} (hj:hv.getD v.1 default=j) (hj3:j < 3) (hc:¬ (aC (v.2.1.s j) (v.2.1.s j).peer.log.length).2.2≠0) :
    CmInv w hv F (v.1+1,v.2.1.setS j (aC (v.2.1.s j) (v.2.1.s j).peer.log.length).1,v.2.2++(aC (v.2.1.s j) (v.2.1.s j).peer.log.length).2.1):=by
  obtain ⟨h1,h2,⟨e1,e2,e3⟩,h4,h5,h6,h7,h8⟩:=h
  rw [su hv v.1 hk,hj,bq,if_neg hc] at h2
  have hs:=h4 j hj3
  have hn:=jW (v.2.1.s j) (v.2.1.s j).peer.log.length
  have hl:=hs.gs.w.2.2.1.2.2.1.1
  have hg:=CP hs (n:=((v.2.1.s j).peer.log.length:Int)) (by constructor<;>omega) (Classical.not_not.1 hc)
  have hv4:=hs.v
  refine ⟨hk,h2,⟨?_,e2,e3⟩,fun i hi=>?_,h5,?_,h7,h8⟩
  · show (v.2.1.sv.set _ _).length=3;rw [List.length_set];exact e1
  · show SG ((v.2.1.setS j _).s i)
    rw [dO (by omega)]
    split
    · exact hg
    · exact h4 i hi
  · simp only [List.length_append];omega
theorem CmInv.end {w:AWorld} {hv:List Nat} {F:AWorld×List ANote×Int} {v:Nat×AWorld×List ANote} (h:CmInv w hv F v) (hk:¬ v.1 < hv.length):F=(v.2.1,v.2.2,0):=by
  have h2:=h.f
  rw [List.drop_of_length_le (by omega)] at h2
  exact h2.symm
def oF (i:Nat):List DV:=[.int .i64 (i:Int)]
theorem IP (w:AWorld) (x:ATxn):(cw w).setN (w.done.length+1)=cw { w with done:=w.done++[x] }:=by
  unfold cw CW.setN
  simp only [List.length_append,List.length_singleton]
  rfl
structure CmOk (w:AWorld) (who:Nat) (x:ATxn) (hv:List Nat):Prop where
  l:WL w
  s:∀ i,i < 3→SG (w.s i)
  c:∀ i,i < 16→(w.c i).cache.length≤100000∧aY ((w.c i).cache.map AEntry.path)
  d:w.done.length≤100000
  ld:0≤w.leader∧w.leader < 3
  h:hv.length≤3∧∀ i,i∈hv→i < 3
  wh:who < 16
  sn:(w.c who).seen≤x.zxid
  x:x.wf
set_option maxHeartbeats 16000000 in
theorem Dy (w:AWorld) (who:Nat) (x:ATxn) (hv:List Nat) (hw:CmOk w who x hv) (wi:Int) (hwi:wi=(who:Int)):ab Tryz.prog (inW w) 109 [.ptr 0 0,I wi,x.av,.d (.sl 1 (hv.map oF))] (cH (jF w who x hv).1 (jF w who x hv).2):=by
  subst hwi
  obtain ⟨⟨e1,e2,e3⟩,hs,hc16,hd,⟨hl0,hl3⟩,⟨hh3,hhm⟩,hwho,hsn,hxw⟩:=hw
  unfold jF
  generalize hF:bq hv w []=F
  unfold inW cH
  refine zJ Tryz.func109 Tryz.ntmps109 Tryz.results109 ?_;simp only [go_sem]
  (refine zW qw zn trivial (z1 ?_)<;>(repeat with_reducible intro hc))
  refine AWP.weaken (aG.nilOwn 9 3 rfl) ?_
  simp only [go_sem]
  refine AWP.loopB (ι:=Nat×AWorld×List ANote) (fun v=>CmInv w hv F v) (fun v=>hv.length - v.1) [0,1,6,8,19,20] (fun v=>[(21,I v.1),(9,.osl 4 3 0 v.2.2.length)]) (fun v=>[.cells (wC (cw v.2.1) 1),.rows 7 (w.done.map ATxn.row),.cells [I x.zxid,I x.op,I x.session,S x.path,S x.data,I x.version,I x.owner],.cells [I 0,I 0,S [],S [],I 0,I 0,I 0,I 0,I 0,I 0,I 0,.d (.sc (.slice none 0 0))],.rows 3 (v.2.2.map ANote.row)]) (0,w,[]) ?_ ?_ ?_
  · exact ⟨Nat.zero_le _,hF,⟨e1,e2,e3⟩,hs,rfl,Nat.le_refl _,rfl,rfl⟩
  · simp only [go_sem];exact zFr [0,1,2,3,4] trivial
  intro v hi
  simp only [go_sem]
  have hvk:=hi.k
  have hvn:=hi.n
  by_cases hk4:v.1 < hv.length
  · have hrow:∀ z,List.getD (hv.map oF) v.1 z=oF (hv.getD v.1 default):=fun z=>d7 oF hv v.1 z hk4
    have hj3:=hhm _ (bX hv v.1 hk4)
    have hst:=@CmInv.stop _ _ _ _ hi hk4
    have hnx:=@CmInv.next _ _ _ _ hi hk4
    generalize hv.getD v.1 default=j at hrow hj3 hst hnx
    have hg:=hi.s j hj3
    have hlj:=hg.gs.w.2.2.1.2.2.1.1
    have hco:=xo (v.2.1.s j) (v.2.1.s j).peer.log.length hg.gs.w hg.gs.t hg.gs.p
    have hst:=@hst j rfl
    have hnx:=@hnx j rfl hj3
    have hcf:=jW (v.2.1.s j) (v.2.1.s j).peer.log.length
    have hg4:=hg.v
    generalize aC (v.2.1.s j) (v.2.1.s j).peer.log.length=co at hco hst hnx hcf
    obtain ⟨c1,cn,ce⟩:=co
    simp only at hco hst hnx hcf
    by_cases hce:ce=0
    case neg=>
      have hF2:=hst hce
      subst hF2
      simp only [ne_eq,hce,not_false_eq_true,if_true]
      (refine zW qw (z2 Cu hco) (zx @hrow @oF.eq_1) (zc ?_ (zc ?_ (zc ?_ (z4 ?_ ?_ ?_ ?_))))<;>(repeat with_reducible intro hc))
      all_goals first | (exfalso;omega) | (exfalso;simp_all;done) | skip
      all_goals (refine zO ?_ ?_;(focus ((try simp (disch:=omega) only [go_sem,aa,true_and])<;>fail));simp (disch:=omega) only [go_sem,aa,true_and];exact ag.worldV (r:=noR ce) (rfl) rfl rfl (by rw [hi.d];rfl))
    subst hce
    have k1:=JR hi.l.sl hj3
    (refine zW qw (z2 Cu hco) (zx @hrow @oF.eq_1) (zc ?_ (zc ?_ (zc ?_ (z4 ?_ ?_ ?_ ?_))))<;>(repeat with_reducible intro hc))
    all_goals first | (exfalso;omega) | (exfalso;simp_all;done) | skip
    all_goals (refine ⟨_,hnx (fun h=>h rfl),by simp only;omega,?_⟩;exact zFr [0,1,2,3,6] (zx @List.map_append.{0,0} (zx @List.length_append.{0} @k1)))
  have hF2:=hi.end hk4
  subst hF2
  simp only [ne_eq,not_true_eq_false,if_false]
  have hdn:=hi.d
  have htl:=BG ((cw v.2.1).setN (w.done.length+1)) (w.done.map ATxn.row++[[.int .i64 x.zxid,.int .i64 x.op,.int .i64 x.session,.str x.path,.str x.data,.int .i64 x.version,.int .i64 x.owner]]) v.2.2 (fun i hi2=>by have:=hc16 i hi2;show (v.2.1.cl.getD i default).cache.length≤_∧aY ((v.2.1.cl.getD i default).cache.map _);rw [hi.c];exact this) (by omega)
  have htd:((cw v.2.1).setN (w.done.length+1)).told v.2.2 16=cw (eA { v.2.1 with done:=v.2.1.done++[x] } v.2.2):=by
    rw [show ((cw v.2.1).setN (w.done.length+1))=cw { v.2.1 with done:=v.2.1.done++[x] } from by rw [←hdn];exact IP v.2.1 x]
    exact BU (w:={ v.2.1 with done:=v.2.1.done++[x] }) hi.l.cl v.2.2
  have hcu:(eA { v.2.1 with done:=v.2.1.done++[x] } v.2.2).c who=kv v.2.2 (w.c who):=by
    rw [ww (by show who < v.2.1.cl.length;rw [hi.c];omega)]
    show kv v.2.2 (v.2.1.cl.getD who default)=kv v.2.2 (w.cl.getD who default)
    rw [hi.c]
  have hud:(eA { v.2.1 with done:=v.2.1.done++[x] } v.2.2).done=w.done++[x]:=by show v.2.1.done++[x]=_;rw [hdn]
  have hul:(eA { v.2.1 with done:=v.2.1.done++[x] } v.2.2).leader=w.leader:=hi.ld
  have hus:∀ i,i < 3→SG ((eA { v.2.1 with done:=v.2.1.done++[x] } v.2.2).s i):=hi.s
  have huc:(eA { v.2.1 with done:=v.2.1.done++[x] } v.2.2).cl.length=16:=by show (v.2.1.cl.map _).length=16;rw [List.length_map,hi.l.cl]
  generalize eA { v.2.1 with done:=v.2.1.done++[x] } v.2.2=u at htd hcu hud hul hus huc ⊢
  have hle:u.leader=((w.leader.toNat:Nat):Int):=by rw [hul];omega
  have hli:w.leader.toNat < 3:=by omega
  have hgl:=hus _ hli
  have hco:=hc16 who hwho
  have hcl:(u.c who).cache.length≤100000:=by
    rw [hcu]
    exact Nat.le_trans (pp _ _ _).length_le hco.1
  have hse:eW (u.c who) x.zxid=(⟨(u.c who).session,x.zxid,(u.c who).cache⟩,0):=by
    unfold eW
    rw [if_neg]
    rw [hcu]
    show ¬ x.zxid < (w.c who).seen
    omega
  have hsc:=K6 (u.c who) x.zxid (by omega)
  rw [hse] at hsc ⊢
  have hgt:=iT (u.s w.leader.toNat).tree x.path hgl.gs.t.1.2.1.1 (aT hgl.g)
  rw [hle]
  simp only [ne_eq,not_true_eq_false,if_false,Int.toNat_natCast]
  generalize aP (u.s w.leader.toNat).tree x.path=gq at hgt ⊢
  obtain ⟨gn,ge⟩:=gq
  simp only at hgt hsc ⊢
  have k3:=LF huc hwho
  have hle2:(u.setC who ⟨(u.c who).session,x.zxid,(u.c who).cache⟩).leader=((w.leader.toNat:Nat):Int):=hle
  have hle3:(u.setC who ⟨(u.c who).session,x.zxid,(u.c who).cache⟩).s=u.s:=rfl
  (refine zW qs zn @hdn (z1 ?_)<;>(repeat with_reducible intro hc))
  all_goals first | (exfalso;omega) | skip
  refine AWP.meetB [0,1,6,8] [(9,.osl 4 3 0 v.2.2.length)] [.cells (wC ((cw v.2.1).setN (w.done.length+1)) 5),.dead,.cells [I x.zxid,I x.op,I x.session,S x.path,S x.data,I x.version,I x.owner],.cells [I 0,I 0,S [],S [],I 0,I 0,I 0,I 0,I 0,I 0,I 0,.d (.sc (.slice none 0 0))],.rows 3 (v.2.2.map ANote.row),.rows 7 (w.done.map ATxn.row++[[.int .i64 x.zxid,.int .i64 x.op,.int .i64 x.session,.str x.path,.str x.data,.int .i64 x.version,.int .i64 x.owner]])] ?_ ?_
  · (refine zW qw (z1 Cu) @hdn (z2 ?_ ?_)<;>(repeat with_reducible intro hc))
    all_goals first | (exfalso;omega) | skip
    all_goals exact zFr [0,1,2,3,4,6] trivial
  simp only [go_sem]
  (refine zW qs (z1 (ac [0,5,4] htl)) @htd (z1 ?_)<;>(repeat with_reducible intro hc))
  refine AWP.meetB [0,1,6,8] [(9,.osl 4 3 0 v.2.2.length),(15,.ptr 6 0),(16,I 0)] [.cells (wC (cw u) 5),.dead,.cells [I x.zxid,I x.op,I x.session,S x.path,S x.data,I x.version,I x.owner],.cells [I 0,I 0,S [],S [],I 0,I 0,I 0,I 0,I 0,I 0,I 0,.d (.sc (.slice none 0 0))],.rows 3 (v.2.2.map ANote.row),.rows 7 (w.done.map ATxn.row++[[.int .i64 x.zxid,.int .i64 x.op,.int .i64 x.session,.str x.path,.str x.data,.int .i64 x.version,.int .i64 x.owner]]),.cells [I (u.c who).session,I x.zxid,.d (.sl 3 ((u.c who).cache.map AEntry.row))]] ?_ ?_
  · (refine zW qw (z2 Cu hsc) trivial (zc ?_ (zc ?_ (zc ?_ (z4 ?_ ?_ ?_ ?_))))<;>(repeat with_reducible intro hc))
    all_goals first | (exfalso;omega) | skip
    all_goals exact zFr [0,1,2,3,4,5,6] trivial
  simp only [go_sem]
  (refine zW qs zn trivial (z1 ?_)<;>(repeat with_reducible intro hc))
  all_goals first | (exfalso;omega) | skip
  refine AWP.meetB [0,1,6,8] [(9,.osl 4 3 0 v.2.2.length)] [.cells (wC (cw (u.setC who ⟨(u.c who).session,x.zxid,(u.c who).cache⟩)) 5),.dead,.cells [I x.zxid,I x.op,I x.session,S x.path,S x.data,I x.version,I x.owner],.cells [I 0,I 0,S [],S [],I 0,I 0,I 0,I 0,I 0,I 0,I 0,.d (.sc (.slice none 0 0))],.rows 3 (v.2.2.map ANote.row),.rows 7 (w.done.map ATxn.row++[[.int .i64 x.zxid,.int .i64 x.op,.int .i64 x.session,.str x.path,.str x.data,.int .i64 x.version,.int .i64 x.owner]])] ?_ ?_
  · (refine zW qw (z1 Cu) trivial (z1 ?_)<;>(repeat with_reducible intro hc))
    all_goals first | (exfalso;omega) | skip
    all_goals exact zFr [0,1,2,3,4,5] @k3
  simp only [go_sem]
  (refine zW qs zn trivial (z1 ?_)<;>(repeat with_reducible intro hc))
  refine AWP.meetB [0,1,6,8] [(9,.osl 4 3 0 v.2.2.length),(17,.ptr 6 0)] [.cells (wC (cw (u.setC who ⟨(u.c who).session,x.zxid,(u.c who).cache⟩)) 5),.dead,.cells [I x.zxid,I x.op,I x.session,S x.path,S x.data,I x.version,I x.owner],.cells [I 0,I 0,S [],S [],I 0,I 0,I 0,I 0,I 0,I 0,I 0,.d (.sc (.slice none 0 0))],.rows 3 (v.2.2.map ANote.row),.rows 7 (w.done.map ATxn.row++[[.int .i64 x.zxid,.int .i64 x.op,.int .i64 x.session,.str x.path,.str x.data,.int .i64 x.version,.int .i64 x.owner]]),.cells [S gn.path,S gn.data,I gn.stat.czxid,I gn.stat.mzxid,I gn.stat.pzxid,I gn.stat.version,I gn.stat.cversion,I gn.stat.owner,I gn.stat.kids]] ?_ ?_
  · (refine zW qw (z2 Cu hgt) (zx @hle2 @hle3) (zc ?_ (zc ?_ (zc ?_ (zc ?_ (zc ?_ (zc ?_ (zc ?_ (zc ?_ (z4 ?_ ?_ ?_ ?_)))))))))<;>(repeat with_reducible intro hc))
    all_goals first | (exfalso;omega) | skip
    all_goals exact zFr [0,1,2,3,4,5,6] @k3
  simp only [go_sem]
  (refine zW qw zn trivial (z1 ?_)<;>(repeat with_reducible intro hc))
  refine zO ?_ ?_
  · simp (disch:=omega) only [go_sem,aa]
  simp (disch:=omega) only [go_sem,aa]
  exact ag.worldM 5 4 (r:=⟨0,x.zxid,x.path,[],gn.stat,v.2.2⟩) rfl rfl (by rw [show (u.setC who ⟨(u.c who).session,x.zxid,(u.c who).cache⟩).done=w.done++[x] from hud,List.map_append];rfl) (by decide) rfl (by decide)
theorem ET:Pls [Plan.takes [0,1,2,3,4,5,6,7,8,9] .done,Plan.takes [0,1,2,4] (.forks 3 (.fork 5 (.fork 6 (Plan.takes [7,8,9,10,11,12] .done) 10 (Plan.takes [6,7,8,9,11,12] .done)) 10 (Plan.takes [5,6,7,8,9,11,12] .done)) 5 (.fork 3 (.fork 6 (Plan.takes [7,8,9,10,11,12] .done) 10 (Plan.takes [6,7,8,9,11,12] .done)) 10 (Plan.takes [3,6,7,8,9,11,12] .done)) 10 (Plan.takes [3,5,6,7,8,9,11,12] .done)),Plan.takes [0,1,2,3,4,5,6,7,8,9,11,17,18] (.fork 10 (Plan.takes [12,13,14,15,16,19,20] .done) 12 (Plan.takes [10,13,14,15,16,19,20] .done)),Plan.takes [0,1,2,3,4,7] (.forks 5 (.fork 6 (.fork 8 (Plan.takes [9,10,11,12,13,14] .done) 12 (Plan.takes [8,9,10,11,13,14] .done)) 12 (Plan.takes [6,8,9,10,11,13,14] .done)) 6 (.fork 5 (.fork 8 (Plan.takes [9,10,11,12,13,14] .done) 12 (Plan.takes [8,9,10,11,13,14] .done)) 12 (Plan.takes [5,8,9,10,11,13,14] .done)) 12 (Plan.takes [5,6,8,9,10,11,13,14] .done)),Plan.takes [0,1,2,3,4,5,6] .done]:=pls _
attribute [go_sem] Tryz.ntmps107 Tryz.results107 Tryz.ntmps108 Tryz.results108
theorem KS (a:Int):bits .and .i64 a 1=a % 2:=by
  show IntKind.i64.wrap ((BitVec.ofInt 64 a &&& BitVec.ofInt 64 ((1:Nat):Int)).toNat:Int)=_
  rw [BitVec.toNat_and,jj 1 (by decide),show (1:Nat)=2 ^ 1 - 1 from rfl,Nat.and_two_pow_sub_one_eq_mod,BitVec.toNat_ofInt,IntKind.wrap_i64]
  omega
theorem E6 (n:Int) (i:Nat):decide (bits .and .i64 (n / 2 ^ i) 1=0)=!tE n i:=by
  rw [KS];unfold tE
  rw [Bool.eq_iff_iff,Bool.not_eq_true',decide_eq_true_eq,decide_eq_false_iff_not];omega
theorem EB {n:Nat} (h:n < 1000):IntKind.u64.wrap (n:Int)=(n:Int):=by rw [IntKind.wrap_u64];omega
theorem Ma (v:CW) (i:Nat) (b:Bool) (h:v.f i=b):v.setF i b=v:=by
  unfold CW.setF
  have:(fun j=>if j=i then b else v.f j)=v.f:=funext fun j=>by
    by_cases e:j=i
    · subst e;rw [if_pos rfl,h]
    · rw [if_neg e]
  rw [this]
theorem uD (z:Int):okI (mo z).1:=by
  unfold mo
  split
  · rename_i h
    unfold bV at h
    split
    · exact ⟨by show (-9223372036854775808:Int)≤0;decide,by show (0:Int)≤9223372036854775807;decide⟩
    · constructor
      · show (-9223372036854775808:Int)≤_;simp only;omega
      · show _≤(9223372036854775807:Int);simp only;omega
  · exact ⟨by show (-9223372036854775808:Int)≤0;decide,by show (0:Int)≤9223372036854775807;decide⟩
theorem C7 (p:APeer):okI (dG p).1:=by
  unfold dG
  split
  · split
    · exact ⟨by show (-9223372036854775808:Int)≤0;decide,by show (0:Int)≤9223372036854775807;decide⟩
    · exact uD _
  · exact uD _
structure TgInv (w:AWorld) (x:ATxn) (lost slow:Int) (F:AWorld×List Nat×Int) (v:Nat×AWorld×List Nat):Prop where
  k:v.1≤3
  f:bW x w.leader lost slow (([0,1,2]:List Nat).drop v.1) v.2.1 v.2.2=F
  l:WL v.2.1
  s:∀ i,v.1≤i→i < 3→v.2.1.s i=w.s i
  fl:∀ i,v.1≤i→i < 3→v.2.1.f i=w.f i
  ld:v.2.1.leader=w.leader
  d:v.2.1.done=w.done
  c:v.2.1.cl=w.cl
  sg:∀ i,i < 3→SG (v.2.1.s i)
  h:v.2.2.length≤v.1∧∀ i,i∈v.2.2→i < 3
section
variable {w:AWorld} {x:ATxn} {lost slow:Int} {F:AWorld×List Nat×Int} {v:Nat×AWorld×List Nat}
theorem TgInv.skip (h:TgInv w x lost slow F v) (hk:v.1 < 3) (hf:v.2.1.f v.1=false):TgInv w x lost slow F (v.1+1,v.2):=by
  obtain ⟨h1,h2,h3,h4,h5,h6,h7,h8,h9,h10,h11⟩:=h
  rw [pH hk,bW,if_pos hf] at h2
  exact ⟨hk,h2,h3,fun i a b=>h4 i (by simp only at a;omega) b,fun i a b=>h5 i (by simp only at a;omega) b,h6,h7,h8,h9,by simp only;omega,h11⟩
theorem TgInv.gone (h:TgInv w x lost slow F v) (hk:v.1 < 3) (hf:¬ v.2.1.f v.1=false) (hb:¬ w.leader=(v.1:Int)∧tE lost v.1=true):TgInv w x lost slow F (v.1+1,v.2.1.setF v.1 false,v.2.2):=by
  obtain ⟨h1,h2,⟨e1,e2,e3⟩,h4,h5,h6,h7,h8,h9,h10,h11⟩:=h
  rw [pH hk,bW,if_neg hf,if_pos hb] at h2
  refine ⟨hk,h2,⟨e1,by show (v.2.1.fl.set _ _).length=3;rw [List.length_set];exact e2,e3⟩,fun i a b=>h4 i (by simp only at a;omega) b,fun i a b=>?_,h6,h7,h8,h9,by simp only;omega,h11⟩
  simp only at a
  show (v.2.1.setF v.1 false).f i=w.f i
  rw [oL (by omega),if_neg (by omega)]
  exact h5 i (by omega) b
theorem TgInv.stop (h:TgInv w x lost slow F v) (hk:v.1 < 3) (hf:¬ v.2.1.f v.1=false) (hb:¬ (¬ w.leader=(v.1:Int)∧tE lost v.1=true)) {sf:Bool} (hsf:(decide (w.leader=(v.1:Int)) || !tE slow v.1)=sf) (ht:(bo (w.s v.1) x sf).2≠0):F=(v.2.1,v.2.2,(bo (w.s v.1) x sf).2):=by
  have h2:=h.f
  have hs:=h.s v.1 (Nat.le_refl _) hk
  rw [pH hk,bW,hs,if_neg hf,if_neg hb,hsf,if_pos ht] at h2
  exact h2.symm
theorem TgInv.next (h:TgInv w x lost slow F v) (hk:v.1 < 3) (hf:¬ v.2.1.f v.1=false) (hb:¬ (¬ w.leader=(v.1:Int)∧tE lost v.1=true)) {sf:Bool} (hsf:(decide (w.leader=(v.1:Int)) || !tE slow v.1)=sf) (ht:¬ (bo (w.s v.1) x sf).2≠0)
    (hx:x.wf) (hp:x.path.length≤1048576) (hl:(w.s v.1).peer.log.length≤1048576):TgInv w x lost slow F (v.1+1,v.2.1.setS v.1 (bo (w.s v.1) x sf).1,if sf=true then v.2.2++[v.1] else v.2.2):=by
  obtain ⟨h1,h2,⟨e1,e2,e3⟩,h4,h5,h6,h7,h8,h9,h10,h11⟩:=h
  have hs:=h4 v.1 (Nat.le_refl _) hk
  rw [pH hk,bW,hs,if_neg hf,if_neg hb,hsf,if_neg ht] at h2
  have hg:=h9 v.1 hk
  rw [hs] at hg
  have hg2:=JM (safe:=sf) hg hx hp hl (Classical.not_not.1 ht)
  refine ⟨hk,h2,⟨by show (v.2.1.sv.set _ _).length=3;rw [List.length_set];exact e1,e2,e3⟩,fun i a b=>?_,fun i a b=>h5 i (by simp only at a;omega) b,h6,h7,h8,fun i hi=>?_,?_,?_⟩
  · simp only at a
    show (v.2.1.setS v.1 _).s i=w.s i
    rw [dO (by omega),if_neg (by omega)]
    exact h4 i (by omega) b
  · show SG ((v.2.1.setS v.1 _).s i)
    rw [dO (by omega)]
    split
    · exact hg2
    · exact h9 i hi
  · simp only
    split
    · rw [List.length_append,List.length_singleton];omega
    · omega
  · simp only
    intro i hi
    split at hi
    · rcases List.mem_append.1 hi with hi | hi
      · exact h11 i hi
      · rw [List.mem_singleton.1 hi];exact hk
    · exact h11 i hi
theorem TgInv.end (h:TgInv w x lost slow F v) (hk:¬ v.1 < 3):F=(v.2.1,v.2.2,0):=by
  have h2:=h.f
  have hk3:v.1=3:=by have:=h.k;omega
  rw [hk3] at h2
  exact h2.symm
end
structure WrOk (w:AWorld):Prop where
  l:WL w
  s:∀ i,i < 3→SG (w.s i)
  n:∀ i,i < 3→(w.s i).peer.log.length≤100000
  c:∀ i,i < 16→(w.c i).cache.length≤100000∧aY ((w.c i).cache.map AEntry.path)
  cs:∀ i,i < 16→okI (w.c i).session
  d:w.done.length≤100000
  ld:w.leader < 3
  sn:∀ i,i < 16→0≤w.leader→(w.c i).seen≤(dG (w.s w.leader.toNat).peer).1∨(dG (w.s w.leader.toNat).peer).2≠0
set_option maxHeartbeats 16000000 in
theorem EJ (w:AWorld) (d:ADeed) (hw:WrOk w) (hdw:d.wf) (hdp:d.request.path.length≤1048576):ab Tryz.prog (inW w) 55 [.ptr 0 0,d.av] (cH (da w d).1 (da w d).2):=by
  obtain ⟨⟨e1,e2,e3⟩,hs,hn,hc16,hcz,hdn,hl3,hsn⟩:=hw
  obtain ⟨kind,client,server,rq,lost,slow,keep,watch⟩:=d
  obtain ⟨_,hcI,_,hrq,hlo,hsl,_,_⟩:=hdw
  simp only at hcI hrq hlo hsl hdp
  unfold da
  simp only
  by_cases h1:client < 0∨16≤client
  · rw [if_pos h1]
    have hcb:(decide (client < 0) || decide (16≤client))=true:=by rcases h1 with h | h<;>simp [h]
    unfold inW cH
    refine zJ Tryz.func55 Tryz.ntmps55 Tryz.results55 ?_;simp only [go_sem]
    (refine zW qs zn @hcb (z1 ?_)<;>(repeat with_reducible intro hc))
    all_goals first | (exfalso;omega) | contradiction | (exfalso;simp_all;done) | skip
    all_goals (refine zO ?_ ?_;(focus ((try simp (disch:=omega) only [go_sem,aa])<;>fail));simp (disch:=omega) only [go_sem,aa];exact ag.worldV (r:=noR 3) (rfl) rfl rfl rfl)
  rw [if_neg h1]
  obtain ⟨cl,rfl⟩:∃ cl:Nat,client=(cl:Int):=⟨client.toNat,by omega⟩
  have hcl:cl < 16:=by omega
  have hcb:(decide ((cl:Int) < 0) || decide (16≤(cl:Int)))=false:=by rw [decide_eq_false (by omega),decide_eq_false (by omega)];rfl
  by_cases h2:w.leader < 0
  · rw [if_pos h2]
    have hlb:decide (w.leader < 0)=true:=decide_eq_true h2
    unfold inW cH
    refine zJ Tryz.func55 Tryz.ntmps55 Tryz.results55 ?_;simp only [go_sem]
    (refine zW qs zn (zx @hcb @hlb) (z1 ?_)<;>(repeat with_reducible intro hc))
    all_goals first | (exfalso;omega) | contradiction | (exfalso;simp_all;done) | skip
    all_goals (refine zO ?_ ?_;(focus ((try simp (disch:=omega) only [go_sem,aa])<;>fail));simp (disch:=omega) only [go_sem,aa];exact ag.worldV (r:=noR 14) (rfl) rfl rfl rfl)
  rw [if_neg h2]
  obtain ⟨li,hle⟩:∃ li:Nat,w.leader=(li:Int):=⟨w.leader.toNat,by omega⟩
  have hli:li < 3:=by omega
  have hgl:=hs li hli
  have hnx:=zv (w.s li).peer hgl.gs.w.2.2.1.2.2.1.1
  have hnk:=C7 (w.s li).peer
  have hsn2:=hsn cl hcl (by omega)
  have hlb:decide ((li:Int) < 0)=false:=decide_eq_false (by omega)
  unfold mv
  rw [hle] at hsn2 ⊢
  simp only [Int.toNat_natCast] at hsn2 ⊢
  generalize dG (w.s li).peer=q at hnx hnk hsn2 ⊢
  obtain ⟨z,ze⟩:=q
  simp only at hnx hnk hsn2 ⊢
  unfold inW cH
  refine zJ Tryz.func55 Tryz.ntmps55 Tryz.results55 ?_;simp only [go_sem]
  (refine zW qs zn (zx @hcb (zx @hle @hlb)) (z1 ?_)<;>(repeat with_reducible intro hc))
  all_goals first | (exfalso;omega) | contradiction | (exfalso;simp_all;done) | skip
  refine AWP.meetB [0,3,4] [(5,.ptr 4 0)] [.cells (wC (cw w) 1),.rows 7 (w.done.map ATxn.row),.cells [I kind,I (cl:Int),I server,I rq.op,I rq.session,S rq.path,S rq.data,I rq.version,I rq.flags,I lost,I slow,I keep,B watch],.cells [I 0,I 0,S [],S [],I 0,I 0,I 0,I 0,I 0,I 0,I 0,.d (.sc (.slice none 0 0))],.cells [I rq.op,I (w.c cl).session,S rq.path,S rq.data,I rq.version,I rq.flags]] ?_ ?_
  · (refine zW qw (z1 ET) trivial (z1 ?_)<;>(repeat with_reducible intro hc))
    all_goals first | (exfalso;omega) | contradiction | (exfalso;simp_all;done) | skip
    all_goals exact zFr [0,1,2,3,4] trivial
  simp only [go_sem]
  (refine zW qs zn trivial (z1 ?_)<;>(repeat with_reducible intro hc))
  refine AWP.meetB [0,3,4,5] [(6,.ptr 0 (li*10))] [.cells (wC (cw w) 1),.rows 7 (w.done.map ATxn.row),.cells [I kind,I (cl:Int),I server,I rq.op,I rq.session,S rq.path,S rq.data,I rq.version,I rq.flags,I lost,I slow,I keep,B watch],.cells [I 0,I 0,S [],S [],I 0,I 0,I 0,I 0,I 0,I 0,I 0,.d (.sc (.slice none 0 0))],.cells [I rq.op,I (w.c cl).session,S rq.path,S rq.data,I rq.version,I rq.flags]] ?_ ?_
  · (refine zW qw zn @hle (z1 ?_)<;>(repeat with_reducible intro hc))
    all_goals first | (exfalso;omega) | contradiction | (exfalso;simp_all;done) | skip
    all_goals exact zFr [0,1,2,3,4] trivial
  simp only [go_sem]
  by_cases hz:ze=0
  case neg=>
    rw [if_pos hz]
    (refine zW qs (z1 hnx) trivial (z1 ?_)<;>(repeat with_reducible intro hc))
    all_goals first | (exfalso;omega) | contradiction | (exfalso;simp_all;done) | skip
    all_goals (refine zO ?_ ?_;(focus ((try simp (disch:=omega) only [go_sem,aa])<;>fail));simp (disch:=omega) only [go_sem,aa];exact ag.worldV (r:=noR ze) (rfl) rfl rfl rfl)
  subst hz
  rw [if_neg (fun h=>h rfl)]
  have hpr:=Lj (w.s li).tree z ⟨rq.op,(w.c cl).session,rq.path,rq.data,rq.version,rq.flags⟩ hgl.gs.t ⟨hrq.1,hcz cl hcl,hrq.2.2.1,hrq.2.2.2.1,hrq.2.2.2.2.1,hrq.2.2.2.2.2⟩ hdp hnk
  have hpk:=@Cn (w.s li).tree z ⟨rq.op,(w.c cl).session,rq.path,rq.data,rq.version,rq.flags⟩
  generalize cF (w.s li).tree z ⟨rq.op,(w.c cl).session,rq.path,rq.data,rq.version,rq.flags⟩=p at hpr hpk ⊢
  obtain ⟨x,pe⟩:=p
  simp only at hpr hpk ⊢
  (refine zW qs (z1 hnx) trivial (z1 ?_)<;>(repeat with_reducible intro hc))
  all_goals first | (exfalso;omega) | contradiction | (exfalso;simp_all;done) | skip
  refine AWP.meetB [0,3,4] [(8,I pe),(9,.ptr 5 0)] [.cells (wC (cw w) 1),.rows 7 (w.done.map ATxn.row),.cells [I kind,I (cl:Int),I server,I rq.op,I rq.session,S rq.path,S rq.data,I rq.version,I rq.flags,I lost,I slow,I keep,B watch],.cells [I 0,I 0,S [],S [],I 0,I 0,I 0,I 0,I 0,I 0,I 0,.d (.sc (.slice none 0 0))],.cells [I rq.op,I (w.c cl).session,S rq.path,S rq.data,I rq.version,I rq.flags],.cells [I x.zxid,I x.op,I x.session,S x.path,S x.data,I x.version,I x.owner]] ?_ ?_
  · (refine zW qw (z2 ET hpr) trivial (zc ?_ (zc ?_ (zc ?_ (z4 ?_ ?_ ?_ ?_))))<;>(repeat with_reducible intro hc))
    all_goals first | (exfalso;omega) | contradiction | (exfalso;simp_all;done) | skip
    all_goals exact zFr [0,1,2,3,4,5] trivial
  simp only [go_sem]
  by_cases hz:pe=0
  case neg=>
    rw [if_pos hz]
    (refine zW qs zn trivial (z1 ?_)<;>(repeat with_reducible intro hc))
    all_goals first | (exfalso;omega) | contradiction | (exfalso;simp_all;done) | skip
    all_goals (refine zO ?_ ?_;(focus ((try simp (disch:=omega) only [go_sem,aa])<;>fail));simp (disch:=omega) only [go_sem,aa];exact ag.worldV (r:=noR pe) (rfl) rfl rfl rfl)
  subst hz
  rw [if_neg (fun h=>h rfl)]
  obtain ⟨hxz,hxa⟩:=hpk rfl
  obtain ⟨hxw,hxp⟩:=H1 (Ch hxa).1
  have hsx:(w.c cl).seen≤x.zxid:=by rcases hsn2 with h | h<;>omega
  clear hpk hpr hnx hsn hsn2
  rw [←hle]
  generalize hF:bW x w.leader lost slow [0,1,2] w []=F
  (refine zW qs zn trivial (z1 ?_)<;>(repeat with_reducible intro hc))
  all_goals first | (exfalso;omega) | contradiction | (exfalso;simp_all;done) | skip
  refine AWP.weaken (aG.nilOwn 10 1 rfl) ?_
  simp only [go_sem]
  refine AWP.loopB (ι:=Nat×AWorld×List Nat) (fun v=>TgInv w x lost slow F v) (fun v=>3 - v.1) [0,3,4,9] (fun v=>[(75,I v.1),(10,.osl 6 1 0 v.2.2.length)]) (fun v=>[.cells (wC (cw v.2.1) 1),.rows 7 (w.done.map ATxn.row),.cells [I kind,I (cl:Int),I server,I rq.op,I rq.session,S rq.path,S rq.data,I rq.version,I rq.flags,I lost,I slow,I keep,B watch],.cells [I 0,I 0,S [],S [],I 0,I 0,I 0,I 0,I 0,I 0,I 0,.d (.sc (.slice none 0 0))],.cells [I rq.op,I (w.c cl).session,S rq.path,S rq.data,I rq.version,I rq.flags],.cells [I x.zxid,I x.op,I x.session,S x.path,S x.data,I x.version,I x.owner],.rows 1 (v.2.2.map oF)]) (0,w,[]) ?_ ?_ ?_
  · exact ⟨Nat.zero_le _,hF,⟨e1,e2,e3⟩,fun i _ _=>rfl,fun i _ _=>rfl,rfl,rfl,rfl,hs,Nat.le_refl _,fun i h=>by cases h⟩
  · simp only [go_sem];exact zFr [0,1,2,3,4,5,6] trivial
  intro v hv
  simp only [go_sem]
  have hvk:=hv.k
  have hvld:=hv.ld
  obtain ⟨hh1,hh2⟩:=hv.h
  by_cases hk4:v.1 < 3
  · have hs0:=hv.s v.1 (Nat.le_refl _) hk4
    by_cases hf:v.2.1.f v.1=false
    · have hsk:=hv.skip hk4 hf
      (refine zW qs zn @hf (z1 ?_)<;>(repeat with_reducible intro hc))
      all_goals first | (exfalso;omega) | contradiction | (exfalso;simp_all;done) | skip
      refine ⟨(v.1+1,v.2),hsk,by simp only;omega,?_⟩
      exact zFr [0,1,2,3,4,5,6] trivial
    have hft:v.2.1.f v.1=true:=by simpa using hf
    have hbe:=E6 lost v.1
    have hse:=E6 slow v.1
    have hwu:=EB (n:=v.1) (by omega)
    by_cases hb:¬ w.leader=(v.1:Int)∧tE lost v.1=true
    · have hls:=hv.gone hk4 hf hb
      have k1:=cwF1 hv.l.fl hk4
      have hlf:decide ((v.1:Int)=w.leader)=false:=decide_eq_false (fun h=>hb.1 h.symm)
      (refine zW qs zn @hft (z1 ?_)<;>(repeat with_reducible intro hc))
      all_goals first | (exfalso;omega) | contradiction | (exfalso;simp_all;done) | skip
      refine AWP.meetB [0,3,4,9,10,11,75] [] [.cells (wC (cw (v.2.1.setF v.1 false)) 1),.rows 7 (w.done.map ATxn.row),.cells [I kind,I (cl:Int),I server,I rq.op,I rq.session,S rq.path,S rq.data,I rq.version,I rq.flags,I lost,I slow,I keep,B watch],.cells [I 0,I 0,S [],S [],I 0,I 0,I 0,I 0,I 0,I 0,I 0,.d (.sc (.slice none 0 0))],.cells [I rq.op,I (w.c cl).session,S rq.path,S rq.data,I rq.version,I rq.flags],.cells [I x.zxid,I x.op,I x.session,S x.path,S x.data,I x.version,I x.owner],.rows 1 (v.2.2.map oF)] ?_ ?_
      · (refine zW qw (z1 ET) (zx @hvld (zx @hlf (zx @hwu (zx @hbe @hb.2)))) (z2 ?_ ?_)<;>(repeat with_reducible intro hc))
        all_goals first | (exfalso;omega) | contradiction | (exfalso;simp_all;done) | skip
        all_goals exact zFr [0,1,2,3,4,5,6] @k1
      simp only [go_sem]
      have hff:(v.2.1.setF v.1 false).f v.1=false:=by rw [oL (by have:=hv.l.fl;omega),if_pos rfl]
      (refine zW qs zn @hff (z1 ?_)<;>(repeat with_reducible intro hc))
      all_goals first | (exfalso;omega) | contradiction | (exfalso;simp_all;done) | skip
      refine ⟨(v.1+1,v.2.1.setF v.1 false,v.2.2),hls,by simp only;omega,?_⟩
      exact zFr [0,1,2,3,4,5,6] trivial
    have hgo:(bif decide ((v.1:Int)=w.leader) then true else !tE lost v.1)=true:=by
      by_cases e:(v.1:Int)=w.leader
      · rw [decide_eq_true e];rfl
      · rw [decide_eq_false e]
        have:tE lost v.1=false:=by
          by_cases hq:tE lost v.1=true
          · exact absurd ⟨fun h=>e h.symm,hq⟩ hb
          · simpa using hq
        rw [this];rfl
    have k1:=Ma (cw v.2.1) v.1 true hft
    generalize hsf:(decide (w.leader=(v.1:Int)) || !tE slow v.1)=sf
    have hsf2:(bif decide ((v.1:Int)=w.leader) then true else !tE slow v.1)=sf:=by
      rw [←hsf,show decide ((v.1:Int)=w.leader)=decide (w.leader=(v.1:Int)) from decide_eq_decide.2 ⟨Eq.symm,Eq.symm⟩]
      cases decide (w.leader=(v.1:Int))<;>rfl
    have hgk:=hs v.1 hk4
    have hnk4:=hn v.1 hk4
    have htk:=Ao (w.s v.1) x sf hgk.gs.w hxw (by omega)
    have hst:=hv.stop hk4 hf hb hsf
    have hnx:=fun a=>hv.next hk4 hf hb hsf a hxw (by omega) (by omega)
    (refine zW qs zn @hft (z1 ?_)<;>(repeat with_reducible intro hc))
    all_goals first | (exfalso;omega) | contradiction | (exfalso;simp_all;done) | skip
    refine AWP.meetB [0,3,4,9,10,11,75] [] [.cells (wC (cw v.2.1) 1),.rows 7 (w.done.map ATxn.row),.cells [I kind,I (cl:Int),I server,I rq.op,I rq.session,S rq.path,S rq.data,I rq.version,I rq.flags,I lost,I slow,I keep,B watch],.cells [I 0,I 0,S [],S [],I 0,I 0,I 0,I 0,I 0,I 0,I 0,.d (.sc (.slice none 0 0))],.cells [I rq.op,I (w.c cl).session,S rq.path,S rq.data,I rq.version,I rq.flags],.cells [I x.zxid,I x.op,I x.session,S x.path,S x.data,I x.version,I x.owner],.rows 1 (v.2.2.map oF)] ?_ ?_
    · cases hdb:decide ((v.1:Int)=w.leader)
      · have hbl:tE lost v.1=false:=by
          rw [hdb] at hgo
          simpa using hgo
        (refine zW qw (z1 ET) (zx @hvld (zx @hwu (zx @hbe (zx @hdb @hbl)))) (z2 ?_ ?_)<;>(repeat with_reducible intro hc))
        all_goals first | (exfalso;omega) | skip
        all_goals exact zFr [0,1,2,3,4,5,6] @k1
      · (refine zW qw (z1 ET) (zx @hvld (zx @hwu (zx @hbe @hdb))) (z2 ?_ ?_)<;>(repeat with_reducible intro hc))
        all_goals first | (exfalso;omega) | skip
        all_goals exact zFr [0,1,2,3,4,5,6] @k1
    simp only [go_sem]
    generalize bo (w.s v.1) x sf=tk at htk hst hnx
    obtain ⟨t1,te⟩:=tk
    simp only at htk hst hnx
    cases hdb:decide ((v.1:Int)=w.leader)
    all_goals (
      rw [hdb] at hsf2
      simp only [cond_true,cond_false] at hsf2
      (repeat' first
    | (with_reducible refine AR.f ?_)
    | refine an (by decide) ?_
    | (with_reducible refine AWP.cond rfl ?_ ?_<;>intro hc<;>(try simp only [hcs,beq_iff_eq,ge_iff_le,gt_iff_lt] at hc))
    | ((first | ((first | (with_reducible first | refine zR ?_));intro K hK) | ((first | (with_reducible refine aunder_i ?_ ?_<;>intro hg) | with_reducible intro hg)<;>(first | (exfalso;simp at hg;done) | (have hg':=hg;(try simp only [hcs,beq_iff_eq,ge_iff_le,gt_iff_lt] at hg');(try simp only [hg])))))<;>(try simp (disch:=omega) only [go_sem,aa,hft,hvld,hwu,hse,hdb])<;>(repeat' with_reducible refine And.intro ?_ ?_)<;>(try (with_reducible refine hK _ ?_;clear hK K)))
    | omega)
      all_goals first | (exfalso;omega) | contradiction | (exfalso;simp_all;done) | skip
      refine AWP.meetB [0,3,4,9,10,11,12,75] [(13,.ptr 7 0),(14,I te)] [.cells (wC (cw v.2.1) 1),.rows 7 (w.done.map ATxn.row),.cells [I kind,I (cl:Int),I server,I rq.op,I rq.session,S rq.path,S rq.data,I rq.version,I rq.flags,I lost,I slow,I keep,B watch],.cells [I 0,I 0,S [],S [],I 0,I 0,I 0,I 0,I 0,I 0,I 0,.d (.sc (.slice none 0 0))],.cells [I rq.op,I (w.c cl).session,S rq.path,S rq.data,I rq.version,I rq.flags],.cells [I x.zxid,I x.op,I x.session,S x.path,S x.data,I x.version,I x.owner],.rows 1 (v.2.2.map oF),.cells [B t1.up,.d (.sl 3 (t1.disk.files.map AFile.row)),I t1.peer.id,I t1.peer.epoch,.d (.sl 7 (t1.peer.log.map ATxn.row)),I t1.peer.done,I t1.tree.zxid,.d (.sl 9 (t1.tree.nodes.map ANode.row)),.d (.sl 1 (t1.tree.sessions.map cO)),.d (.sl 3 (t1.watches.map AWatch.row))]] ?_ ?_
      · (repeat' first
      | (with_reducible refine AR.f ?_)
      | refine an (by decide) ?_
      | (with_reducible refine AWP.cond rfl ?_ ?_<;>intro hc<;>(try simp only [hcs,beq_iff_eq,ge_iff_le,gt_iff_lt] at hc))
      | ((first | ((first | refine zP ((Plan.takes [0,1,2,3,4,5,6,7,8,9] .done)) (by decide +kernel) ?_ | refine zP ((Plan.takes [0,1,2,4] (.forks 3 (.fork 5 (.fork 6 (Plan.takes [7,8,9,10,11,12] .done) 10 (Plan.takes [6,7,8,9,11,12] .done)) 10 (Plan.takes [5,6,7,8,9,11,12] .done)) 5 (.fork 3 (.fork 6 (Plan.takes [7,8,9,10,11,12] .done) 10 (Plan.takes [6,7,8,9,11,12] .done)) 10 (Plan.takes [3,6,7,8,9,11,12] .done)) 10 (Plan.takes [3,5,6,7,8,9,11,12] .done)))) (by decide +kernel) ?_ | refine zP ((Plan.takes [0,1,2,3,4,5,6,7,8,9,11,17,18] (.fork 10 (Plan.takes [12,13,14,15,16,19,20] .done) 12 (Plan.takes [10,13,14,15,16,19,20] .done)))) (by decide +kernel) ?_ | refine zP ((Plan.takes [0,1,2,3,4,7] (.forks 5 (.fork 6 (.fork 8 (Plan.takes [9,10,11,12,13,14] .done) 12 (Plan.takes [8,9,10,11,13,14] .done)) 12 (Plan.takes [6,8,9,10,11,13,14] .done)) 6 (.fork 5 (.fork 8 (Plan.takes [9,10,11,12,13,14] .done) 12 (Plan.takes [8,9,10,11,13,14] .done)) 12 (Plan.takes [5,8,9,10,11,13,14] .done)) 12 (Plan.takes [5,6,8,9,10,11,13,14] .done)))) (by decide +kernel) ?_ | refine zP ((Plan.takes [0,1,2,3,4,5,6] .done)) (by decide +kernel) ?_ | (with_reducible first | refine zR ?_ | refine zQ (by decide +kernel) ?_ | refine zD (by decide +kernel) ?_ | refine zE (by decide +kernel) ?_ | refine zG (by decide +kernel) ?_));intro K hK) | ((first | refine zA htk ?_ ?_ ?_ ?_ ?_);(focus exact rfl);(focus exact rfl);iterate 2 (focus ((try simp (disch:=omega) only [go_sem,aa,hs0])<;>(try omega)<;>fail))) | ((first | refine zN htk rfl ?_ ?_ | refine zX htk rfl ?_ ?_ | refine zY htk ?_ ?_);(focus ((try simp (disch:=omega) only [go_sem,aa,hs0])<;>(try omega)<;>fail))) | ((first | (with_reducible refine aunder_i ?_ ?_<;>intro hg) | with_reducible intro hg)<;>(first | (exfalso;simp at hg;done) | (have hg':=hg;(try simp only [hcs,beq_iff_eq,ge_iff_le,gt_iff_lt] at hg');(try simp only [hg])))))<;>(try simp (disch:=omega) only [go_sem,aa,hs0])<;>(repeat' with_reducible refine And.intro ?_ ?_)<;>(try (with_reducible refine hK _ ?_;clear hK K)))
      | omega)
        all_goals first | (exfalso;omega) | skip
        all_goals (refine zV [0,1,2,3,4,5,6,7] rfl rfl rfl rfl ?_ ?_<;>simp (disch:=omega) only [go_sem,aa,Int.natCast_add]<;>(try rfl))
        all_goals exact congrArg (fun b=>AV.d (DV.bool b)) hsf2.symm
      simp only [go_sem]
      by_cases hte:te=0
      case neg=>
        have hF2:=hst hte
        subst hF2
        simp only [ne_eq,hte,not_false_eq_true,if_true]
        (repeat' first
      | (with_reducible refine AR.f ?_)
      | refine an (by decide) ?_
      | (with_reducible refine AWP.cond rfl ?_ ?_<;>intro hc<;>(try simp only [hcs,beq_iff_eq,ge_iff_le,gt_iff_lt] at hc))
      | ((first | ((first | (with_reducible first | refine zR ?_));intro K hK) | ((first | (with_reducible refine aunder_i ?_ ?_<;>intro hg) | with_reducible intro hg)<;>(first | (exfalso;simp at hg;done) | (have hg':=hg;(try simp only [hcs,beq_iff_eq,ge_iff_le,gt_iff_lt] at hg');(try simp only [hg])))))<;>(try simp (disch:=omega) only [go_sem,aa])<;>(repeat' with_reducible refine And.intro ?_ ?_)<;>(try (with_reducible refine hK _ ?_;clear hK K)))
      | omega)
        all_goals first | (exfalso;omega) | skip
        all_goals (refine zO ?_ ?_;(focus ((try simp (disch:=omega) only [go_sem,aa,true_and])<;>fail));simp (disch:=omega) only [go_sem,aa,true_and];exact ag.worldV (r:=noR te) (rfl) rfl rfl (by rw [hv.d];rfl))
      subst hte
      (repeat' first
    | (with_reducible refine AR.f ?_)
    | refine an (by decide) ?_
    | (with_reducible refine AWP.cond rfl ?_ ?_<;>intro hc<;>(try simp only [hcs,beq_iff_eq,ge_iff_le,gt_iff_lt] at hc))
    | ((first | ((first | (with_reducible first | refine zR ?_));intro K hK) | ((first | (with_reducible refine aunder_i ?_ ?_<;>intro hg) | with_reducible intro hg)<;>(first | (exfalso;simp at hg;done) | (have hg':=hg;(try simp only [hcs,beq_iff_eq,ge_iff_le,gt_iff_lt] at hg');(try simp only [hg])))))<;>(try simp (disch:=omega) only [go_sem,aa])<;>(repeat' with_reducible refine And.intro ?_ ?_)<;>(try (with_reducible refine hK _ ?_;clear hK K)))
    | omega)
      all_goals first | (exfalso;omega) | skip
      have k2:=JR hv.l.sl hk4
      refine AWP.meetB [0,3,4,9,10,11,12,75] [] [.cells (wC (cw (v.2.1.setS v.1 t1)) 1),.rows 7 (w.done.map ATxn.row),.cells [I kind,I (cl:Int),I server,I rq.op,I rq.session,S rq.path,S rq.data,I rq.version,I rq.flags,I lost,I slow,I keep,B watch],.cells [I 0,I 0,S [],S [],I 0,I 0,I 0,I 0,I 0,I 0,I 0,.d (.sc (.slice none 0 0))],.cells [I rq.op,I (w.c cl).session,S rq.path,S rq.data,I rq.version,I rq.flags],.cells [I x.zxid,I x.op,I x.session,S x.path,S x.data,I x.version,I x.owner],.rows 1 (v.2.2.map oF)] ?_ ?_
      · (repeat' first
      | (with_reducible refine AR.f ?_)
      | refine an (by decide) ?_
      | (with_reducible refine AWP.cond rfl ?_ ?_<;>intro hc<;>(try simp only [hcs,beq_iff_eq,ge_iff_le,gt_iff_lt] at hc))
      | ((first | ((first | refine zP ((Plan.takes [0,1,2,3,4,5,6,7,8,9] .done)) (by decide +kernel) ?_ | refine zP ((Plan.takes [0,1,2,4] (.forks 3 (.fork 5 (.fork 6 (Plan.takes [7,8,9,10,11,12] .done) 10 (Plan.takes [6,7,8,9,11,12] .done)) 10 (Plan.takes [5,6,7,8,9,11,12] .done)) 5 (.fork 3 (.fork 6 (Plan.takes [7,8,9,10,11,12] .done) 10 (Plan.takes [6,7,8,9,11,12] .done)) 10 (Plan.takes [3,6,7,8,9,11,12] .done)) 10 (Plan.takes [3,5,6,7,8,9,11,12] .done)))) (by decide +kernel) ?_ | refine zP ((Plan.takes [0,1,2,3,4,5,6,7,8,9,11,17,18] (.fork 10 (Plan.takes [12,13,14,15,16,19,20] .done) 12 (Plan.takes [10,13,14,15,16,19,20] .done)))) (by decide +kernel) ?_ | refine zP ((Plan.takes [0,1,2,3,4,7] (.forks 5 (.fork 6 (.fork 8 (Plan.takes [9,10,11,12,13,14] .done) 12 (Plan.takes [8,9,10,11,13,14] .done)) 12 (Plan.takes [6,8,9,10,11,13,14] .done)) 6 (.fork 5 (.fork 8 (Plan.takes [9,10,11,12,13,14] .done) 12 (Plan.takes [8,9,10,11,13,14] .done)) 12 (Plan.takes [5,8,9,10,11,13,14] .done)) 12 (Plan.takes [5,6,8,9,10,11,13,14] .done)))) (by decide +kernel) ?_ | refine zP ((Plan.takes [0,1,2,3,4,5,6] .done)) (by decide +kernel) ?_ | (with_reducible first | refine zR ?_ | refine zQ (by decide +kernel) ?_ | refine zD (by decide +kernel) ?_ | refine zE (by decide +kernel) ?_ | refine zG (by decide +kernel) ?_));intro K hK) | ((first | (with_reducible refine aunder_i ?_ ?_<;>intro hg) | with_reducible intro hg)<;>(first | (exfalso;simp at hg;done) | (have hg':=hg;(try simp only [hcs,beq_iff_eq,ge_iff_le,gt_iff_lt] at hg');(try simp only [hg])))))<;>(try simp (disch:=omega) only [go_sem,aa])<;>(repeat' with_reducible refine And.intro ?_ ?_)<;>(try (with_reducible refine hK _ ?_;clear hK K)))
      | omega)
        all_goals first | (exfalso;omega) | skip
        all_goals exact zFr [0,1,2,3,4,5,6] @k2
      simp only [go_sem]
      have hnx:=hnx (fun h=>h rfl)
      cases sf
      · first
        | contradiction
        | skip
        all_goals (refine zW qs zn @hsf2 (z1 ?_)<;>(repeat with_reducible intro hc))
        all_goals first | (exfalso;omega) | contradiction | skip
        all_goals refine ⟨(v.1+1,v.2.1.setS v.1 t1,v.2.2),hnx,by simp only;omega,?_⟩
        all_goals exact zFr [0,1,2,3,4,5,6] trivial
      · (repeat' first
      | (with_reducible refine AR.f ?_)
      | refine an (by decide) ?_
      | (with_reducible refine AWP.cond rfl ?_ ?_<;>intro hc<;>(try simp only [hcs,beq_iff_eq,ge_iff_le,gt_iff_lt] at hc))
      | ((first | ((first | (with_reducible first | refine zR ?_));intro K hK) | ((first | (with_reducible refine aunder_i ?_ ?_<;>intro hg) | with_reducible intro hg)<;>(first | (exfalso;simp at hg;done) | (have hg':=hg;(try simp only [hcs,beq_iff_eq,ge_iff_le,gt_iff_lt] at hg');(try simp only [hg])))))<;>(try simp (disch:=omega) only [go_sem,aa,hsf2])<;>(repeat' with_reducible refine And.intro ?_ ?_)<;>(try (with_reducible refine hK _ ?_;clear hK K)))
      | omega)
        all_goals first | (exfalso;omega) | skip
        refine ⟨(v.1+1,v.2.1.setS v.1 t1,v.2.2++[v.1]),hnx,by simp only;omega,?_⟩
        exact zFr [0,1,2,3,4,5,8] (zx @List.map_append.{0,0} (zx @List.map_cons.{0,0} (zx @List.map_nil.{0,0} (zx @oF.eq_1 (zx @List.length_append.{0} (zx @List.length_cons.{0} @List.length_nil.{0})))))))
  have hF2:=hv.end hk4
  subst hF2
  simp only [ne_eq,not_true_eq_false,if_false]
  by_cases hlt:v.2.2.length < 2
  · rw [if_pos hlt]
    (refine zW qs (z2 (ic Tryz.func107) (ic Tryz.func108)) trivial (z1 ?_)<;>(repeat with_reducible intro hc))
    all_goals first | (exfalso;omega) | contradiction | (exfalso;simp_all;done) | skip
    all_goals (refine zO ?_ ?_;(focus ((try simp (disch:=omega) only [go_sem,aa,true_and])<;>fail));simp (disch:=omega) only [go_sem,aa,true_and];exact ag.worldV (r:=⟨16,x.zxid,[],[],default,[]⟩) (pq _) rfl rfl (by show _=some (ABlk.rows 7 (v.2.1.done.map ATxn.row));rw [hv.d];rfl))
  rw [if_neg hlt]
  have hcc:∀ i,v.2.1.c i=w.c i:=fun i=>by show v.2.1.cl.getD i default=w.cl.getD i default;rw [hv.c]
  have hcm:=Dy v.2.1 cl x v.2.2 ⟨hv.l,hv.sg,fun i hi=>by rw [hcc];exact hc16 i hi,by rw [hv.d];exact hdn,by rw [hv.ld];omega,⟨by omega,hh2⟩,hcl,by rw [hcc];exact hsx,hxw⟩ (cl:Int) rfl
  unfold inW cH avN at hcm
  rw [hv.d] at hcm
  generalize jF v.2.1 cl x v.2.2=R at hcm ⊢
  obtain ⟨w',r⟩:=R
  simp only at hcm ⊢
  have hnt:((v.2.2.map oF).drop 0).take v.2.2.length=v.2.2.map oF:=by rw [List.drop_zero];exact List.take_of_length_le (by simp)
  refine AWP.weaken (aG.frz1 10 6 (fun j hj=>⟨by omega,by rcases j with _ | _ | j<;>first | exact ⟨_,rfl,by simp⟩ | omega⟩) rfl rfl (by simp)) ?_
  simp only [go_sem,hnt]
  (refine zW qs (z2 (ac [0,1] hcm) (ic Tryz.func107)) trivial (z1 ?_)<;>(repeat with_reducible intro hc))
  all_goals first | (exfalso;omega) | skip
  refine zO ?_ ?_
  · simp (disch:=omega) only [go_sem,aa]
  simp (disch:=omega) only [go_sem,aa]
  exact ag.worldM 7 8 (r:=r) rfl rfl rfl (by decide) rfl (by decide)
theorem xc:Pls [Plan.takes [0,1,3,4,7,8,9,10] (.forks 2 (Plan.takes [5] (.forks 6 (.fork 11 (.fork 12 (Plan.takes [13,14,15,16,17,18] .done) 16 (Plan.takes [12,13,14,15,17,18] .done)) 16 (Plan.takes [11,12,13,14,15,17,18] .done)) 11 (.fork 6 (.fork 12 (Plan.takes [13,14,15,16,17,18] .done) 16 (Plan.takes [12,13,14,15,17,18] .done)) 16 (Plan.takes [6,12,13,14,15,17,18] .done)) 16 (Plan.takes [6,11,12,13,14,15,17,18] .done))) 11 (.fork 2 (Plan.takes [5] (.fork 6 (.fork 12 (Plan.takes [13,14,15,16,17,18] .done) 16 (Plan.takes [12,13,14,15,17,18] .done)) 16 (Plan.takes [6,12,13,14,15,17,18] .done))) 16 (Plan.takes [2,5,6,12,13,14,15,17,18] .done)) 16 (Plan.takes [2,5,6,11,12,13,14,15,17,18] .done)),Plan.takes [0,1,2,3,4,5,6,7,8,9,10,11,12,13,14,15] .done,Plan.takes [0,1,2,4,5] (.forks 3 (.fork 6 (.fork 7 (Plan.takes [8,9,10,11,12,13] .done) 11 (Plan.takes [7,8,9,10,12,13] .done)) 11 (Plan.takes [6,7,8,9,10,12,13] .done)) 6 (.fork 3 (.fork 7 (Plan.takes [8,9,10,11,12,13] .done) 11 (Plan.takes [7,8,9,10,12,13] .done)) 11 (Plan.takes [3,7,8,9,10,12,13] .done)) 11 (Plan.takes [3,6,7,8,9,10,12,13] .done)),Plan.takes [0,1,2,3,4,5,6,7] .done,Plan.takes [0,1,2,3,4,5,6,7,8,9,10,11,12,13] .done]:=pls _
structure RdOk (w:AWorld):Prop where
  l:WL w
  t:∀ i,i < 3→(w.s i).tree.nodes.length*88≤140737488351232∧aY (aM (w.s i).tree)
  v:∀ i,i < 3→(w.s i).watches.length≤100000
  c:∀ i,i < 16→(w.c i).cache.length≤100000∧aY ((w.c i).cache.map AEntry.path)
theorem Dw {c:AClient} {z:Int} (h:(eW c z).2=0):(eW c z).1.cache=c.cache∧(eW c z).1.session=c.session:=by
  unfold eW at h ⊢
  by_cases hz:z < c.seen
  · rw [if_pos hz] at h;exact absurd h (by decide)
  · rw [if_neg hz];exact ⟨rfl,rfl⟩
theorem FH {w:AWorld} {kind:Int} {k i:Nat} {rq:ARequest} {lost slow keep:Int} {watch:Bool} (h1:¬ ((k:Int) < 0∨16≤(k:Int)∨(i:Int) < 0∨3≤(i:Int))) {n:ANode×Int} {c:AClient×Int} (hn:aP (w.s i).tree rq.path=n) (hc:eW (w.c k) (w.s i).tree.zxid=c) :
    gV w ⟨kind,k,i,rq,lost,slow,keep,watch⟩=if (w.s i).up=false then (w,noR 14) else if c.2≠0 then (w,noR c.2) else
      if watch=true then if (ka (w.s i).watches ⟨c.1.session,1,rq.path⟩).2≠0 then (w,noR (ka (w.s i).watches ⟨c.1.session,1,rq.path⟩).2) else
        ((w.setS i { w.s i with watches:=(ka (w.s i).watches ⟨c.1.session,1,rq.path⟩).1 }).setC k ⟨c.1.session,c.1.seen,iU c.1.cache ⟨rq.path,n.1.data,decide (n.2=0)⟩⟩,⟨n.2,(w.s i).tree.zxid,n.1.path,n.1.data,n.1.stat,[]⟩)
      else (w.setC k c.1,⟨n.2,(w.s i).tree.zxid,n.1.path,n.1.data,n.1.stat,[]⟩):=by
  subst hn hc
  unfold gV
  rw [if_neg h1]
  rfl
set_option maxHeartbeats 16000000 in
theorem Kw (w:AWorld) (d:ADeed) (hw:RdOk w) (hdw:d.wf):ab Tryz.prog (inW w) 56 [.ptr 0 0,d.av] (cH (gV w d).1 (gV w d).2):=by
  obtain ⟨⟨e1,e2,e3⟩,ht,hv,hc16⟩:=hw
  obtain ⟨kind,client,server,rq,lost,slow,keep,watch⟩:=d
  obtain ⟨_,hcI,hsI,hrq,_,_,_,_⟩:=hdw
  simp only at hcI hsI hrq
  by_cases h1:client < 0∨16≤client∨server < 0∨3≤server
  · unfold gV
    simp only
    rw [if_pos h1]
    have hcb:(decide (client < 0) || decide (16≤client) || decide (server < 0) || decide (3≤server))=true:=by rcases h1 with h | h | h | h<;>simp [h]
    unfold inW cH
    refine zJ Tryz.func56 Tryz.ntmps56 Tryz.results56 ?_;simp only [go_sem]
    (refine zW qs zn @hcb (z1 ?_)<;>(repeat with_reducible intro hc))
    all_goals first | (exfalso;omega) | contradiction | (exfalso;simp_all;done) | skip
    all_goals (refine zO ?_ ?_;(focus ((try simp (disch:=omega) only [go_sem,aa])<;>fail));simp (disch:=omega) only [go_sem,aa];exact ag.worldV (r:=noR 3) (rfl) rfl rfl rfl)
  obtain ⟨k,rfl⟩:∃ k:Nat,client=(k:Int):=⟨client.toNat,by omega⟩
  obtain ⟨i,rfl⟩:∃ i:Nat,server=(i:Int):=⟨server.toNat,by omega⟩
  have hk:k < 16:=by omega
  have hi:i < 3:=by omega
  have hcb:(decide ((k:Int) < 0) || decide (16≤(k:Int)) || decide ((i:Int) < 0) || decide (3≤(i:Int)))=false:=by rw [decide_eq_false (by omega),decide_eq_false (by omega),decide_eq_false (by omega),decide_eq_false (by omega)];rfl
  have hti:=ht i hi
  have hvi:=hv i hi
  have hck:=hc16 k hk
  have hgt:=iT (w.s i).tree rq.path hti.1 hti.2
  have hsc:=K6 (w.c k) (w.s i).tree.zxid (by omega)
  have hse:=@Dw (w.c k) (w.s i).tree.zxid
  have hrd:=@FH w kind k i rq lost slow keep watch h1 _ _ rfl rfl
  rw [hrd]
  clear hrd
  generalize aP (w.s i).tree rq.path=gq at hgt ⊢
  obtain ⟨gn,ge⟩:=gq
  generalize eW (w.c k) (w.s i).tree.zxid=sq at hsc hse ⊢
  obtain ⟨c,ce⟩:=sq
  simp only at hgt hsc hse ⊢
  unfold inW cH
  refine zJ Tryz.func56 Tryz.ntmps56 Tryz.results56 ?_;simp only [go_sem]
  (refine zW qs zn @hcb (z1 ?_)<;>(repeat with_reducible intro hc))
  all_goals first | (exfalso;omega) | contradiction | (exfalso;simp_all;done) | skip
  refine AWP.meetB [0,3,4] [(5,.ptr 0 (i*10))] [.cells (wC (cw w) 1),.rows 7 (w.done.map ATxn.row),.cells [I kind,I (k:Int),I (i:Int),I rq.op,I rq.session,S rq.path,S rq.data,I rq.version,I rq.flags,I lost,I slow,I keep,B watch],.cells [I 0,I 0,S [],S [],I 0,I 0,I 0,I 0,I 0,I 0,I 0,.d (.sc (.slice none 0 0))]] ?_ ?_
  · (refine zW qw zn trivial (z1 ?_)<;>(repeat with_reducible intro hc))
    all_goals first | (exfalso;omega) | skip
    all_goals exact zFr [0,1,2,3] trivial
  simp only [go_sem]
  by_cases hup:(w.s i).up=false
  · rw [if_pos hup]
    (refine zW qs zn @hup (z1 ?_)<;>(repeat with_reducible intro hc))
    all_goals first | (exfalso;omega) | contradiction | (exfalso;simp_all;done) | skip
    all_goals (refine zO ?_ ?_;(focus ((try simp (disch:=omega) only [go_sem,aa])<;>fail));simp (disch:=omega) only [go_sem,aa];exact ag.worldV (r:=noR 14) (rfl) rfl rfl rfl)
  rw [if_neg hup]
  have hup2:(w.s i).up=true:=by simpa using hup
  (refine zW qs zn @hup2 (z1 ?_)<;>(repeat with_reducible intro hc))
  all_goals first | (exfalso;omega) | contradiction | (exfalso;simp_all;done) | skip
  refine AWP.meetB [0,3,4,5] [(6,.ptr 4 0),(7,I ce)] [.cells (wC (cw w) 1),.rows 7 (w.done.map ATxn.row),.cells [I kind,I (k:Int),I (i:Int),I rq.op,I rq.session,S rq.path,S rq.data,I rq.version,I rq.flags,I lost,I slow,I keep,B watch],.cells [I 0,I 0,S [],S [],I 0,I 0,I 0,I 0,I 0,I 0,I 0,.d (.sc (.slice none 0 0))],.cells [I c.session,I c.seen,.d (.sl 3 (c.cache.map AEntry.row))]] ?_ ?_
  · (refine zW qw (z2 xc hsc) trivial (zc ?_ (zc ?_ (zc ?_ (zc ?_ (zc ?_ (zc ?_ (zc ?_ (zc ?_ (z4 ?_ ?_ ?_ ?_)))))))))<;>(repeat with_reducible intro hc))
    all_goals first | (exfalso;omega) | skip
    all_goals exact zFr [0,1,2,3,4] trivial
  simp only [go_sem]
  by_cases hce:ce=0
  case neg=>
    rw [if_pos hce]
    (refine zW qs zn trivial (z1 ?_)<;>(repeat with_reducible intro hc))
    all_goals first | (exfalso;omega) | contradiction | (exfalso;simp_all;done) | skip
    all_goals (refine zO ?_ ?_;(focus ((try simp (disch:=omega) only [go_sem,aa])<;>fail));simp (disch:=omega) only [go_sem,aa];exact ag.worldV (r:=noR ce) (rfl) rfl rfl rfl)
  subst hce
  rw [if_neg (fun h=>h rfl)]
  obtain ⟨hcc,hcs⟩:=hse rfl
  cases watch
  · rw [if_neg (by decide)]
    have k3:=LF e3 hk
    (refine zW qs zn trivial (z3 ?_ ?_ ?_)<;>(repeat with_reducible intro hc))
    all_goals first | (exfalso;omega) | contradiction | (exfalso;simp_all;done) | skip
    refine AWP.meetB [0,3,4,5,6] [(7,I ge),(10,.ptr 5 0)] [.cells (wC (cw w) 1),.rows 7 (w.done.map ATxn.row),.cells [I kind,I (k:Int),I (i:Int),I rq.op,I rq.session,S rq.path,S rq.data,I rq.version,I rq.flags,I lost,I slow,I keep,B false],.cells [I 0,I 0,S [],S [],I 0,I 0,I 0,I 0,I 0,I 0,I 0,.d (.sc (.slice none 0 0))],.cells [I c.session,I c.seen,.d (.sl 3 (c.cache.map AEntry.row))],.cells [S gn.path,S gn.data,I gn.stat.czxid,I gn.stat.mzxid,I gn.stat.pzxid,I gn.stat.version,I gn.stat.cversion,I gn.stat.owner,I gn.stat.kids]] ?_ ?_
    · (refine zW qw (z2 xc hgt) trivial (zc ?_ (zc ?_ (zc ?_ (z4 ?_ ?_ ?_ ?_))))<;>(repeat with_reducible intro hc))
      all_goals first | (exfalso;omega) | skip
      all_goals exact zFr [0,1,2,3,4,5] trivial
    simp only [go_sem]
    (repeat' first
  | (with_reducible refine AR.f ?_)
  | refine an (by decide) ?_
  | (with_reducible refine AWP.cond rfl ?_ ?_<;>intro hc<;>(try simp only [hcs,beq_iff_eq,ge_iff_le,gt_iff_lt] at hc))
  | ((first | ((first | (with_reducible first | refine zR ?_));intro K hK) | ((first | (with_reducible refine aunder_i ?_ ?_<;>intro hg) | with_reducible intro hg)<;>(first | (exfalso;simp at hg;done) | (have hg':=hg;(try simp only [hcs,beq_iff_eq,ge_iff_le,gt_iff_lt] at hg');(try simp only [hg])))))<;>(try simp (disch:=omega) only [go_sem,aa])<;>(repeat' with_reducible refine And.intro ?_ ?_)<;>(try (with_reducible refine hK _ ?_;clear hK K)))
  | omega)
    all_goals first | (exfalso;omega) | contradiction | (exfalso;simp_all;done) | skip
    refine AWP.meetB [0,3,4,5,6,7,10] [] [.cells (wC (cw (w.setC k c)) 1),.rows 7 (w.done.map ATxn.row),.cells [I kind,I (k:Int),I (i:Int),I rq.op,I rq.session,S rq.path,S rq.data,I rq.version,I rq.flags,I lost,I slow,I keep,B false],.cells [I 0,I 0,S [],S [],I 0,I 0,I 0,I 0,I 0,I 0,I 0,.d (.sc (.slice none 0 0))],.cells [I c.session,I c.seen,.d (.sl 3 (c.cache.map AEntry.row))],.cells [S gn.path,S gn.data,I gn.stat.czxid,I gn.stat.mzxid,I gn.stat.pzxid,I gn.stat.version,I gn.stat.cversion,I gn.stat.owner,I gn.stat.kids]] ?_ ?_
    · (refine zW qw (z1 xc) trivial (z1 ?_)<;>(repeat with_reducible intro hc))
      all_goals first | (exfalso;omega) | skip
      all_goals exact zFr [0,1,2,3,4,5] @k3
    simp only [go_sem]
    have hws:(w.setC k c).s=w.s:=rfl
    (refine zW qw (z1 xc) @hws (z1 ?_)<;>(repeat with_reducible intro hc))
    all_goals first | (exfalso;omega) | contradiction | (exfalso;simp_all;done) | skip
    all_goals (refine zO ?_ ?_;(focus ((try simp (disch:=omega) only [go_sem,aa])<;>fail));simp (disch:=omega) only [go_sem,aa];exact ag.worldV (r:=⟨ge,(w.s i).tree.zxid,gn.path,gn.data,gn.stat,[]⟩) (rfl) rfl rfl rfl)
  · rw [if_pos rfl]
    have had:=Nw (w.s i).watches ⟨c.session,1,rq.path⟩ (by omega) hrq.2.2.1
    generalize ka (w.s i).watches ⟨c.session,1,rq.path⟩=aq at had ⊢
    obtain ⟨wl,ae⟩:=aq
    simp only at had ⊢
    (refine zW qs zn trivial (z3 ?_ ?_ ?_)<;>(repeat with_reducible intro hc))
    all_goals first | (exfalso;omega) | contradiction | (exfalso;simp_all;done) | skip
    refine AWP.meetB [0,3,4,5,6] [(8,.d (.sl 3 (wl.map AWatch.row))),(9,I ae)] [.cells (wC (cw w) 1),.rows 7 (w.done.map ATxn.row),.cells [I kind,I (k:Int),I (i:Int),I rq.op,I rq.session,S rq.path,S rq.data,I rq.version,I rq.flags,I lost,I slow,I keep,B true],.cells [I 0,I 0,S [],S [],I 0,I 0,I 0,I 0,I 0,I 0,I 0,.d (.sc (.slice none 0 0))],.cells [I c.session,I c.seen,.d (.sl 3 (c.cache.map AEntry.row))]] ?_ ?_
    · (refine zW qw (z2 xc had) trivial (z1 ?_)<;>(repeat with_reducible intro hc))
      all_goals first | (exfalso;omega) | skip
      all_goals exact zFr [0,1,2,3,4] trivial
    simp only [go_sem]
    by_cases hae:ae=0
    case neg=>
      rw [if_pos hae]
      (refine zW qs zn trivial (z2 ?_ ?_)<;>(repeat with_reducible intro hc))
      all_goals first | (exfalso;omega) | contradiction | (exfalso;simp_all;done) | skip
      all_goals (refine zO ?_ ?_;(focus ((try simp (disch:=omega) only [go_sem,aa])<;>fail));simp (disch:=omega) only [go_sem,aa];exact ag.worldV (r:=noR ae) (rfl) rfl rfl rfl)
    subst hae
    rw [if_neg (fun h=>h rfl)]
    (refine zW qs zn trivial (z2 ?_ ?_)<;>(repeat with_reducible intro hc))
    all_goals first | (exfalso;omega) | contradiction | (exfalso;simp_all;done) | skip
    have k1:=JR e1 hi
    have hws:(w.setS i { w.s i with watches:=wl }).s i={ w.s i with watches:=wl }:=by rw [dO (by omega),if_pos rfl]
    refine AWP.meetB [0,3,4,5,6] [(7,I ge),(10,.ptr 5 0)] [.cells (wC (cw (w.setS i { w.s i with watches:=wl })) 1),.rows 7 (w.done.map ATxn.row),.cells [I kind,I (k:Int),I (i:Int),I rq.op,I rq.session,S rq.path,S rq.data,I rq.version,I rq.flags,I lost,I slow,I keep,B true],.cells [I 0,I 0,S [],S [],I 0,I 0,I 0,I 0,I 0,I 0,I 0,.d (.sc (.slice none 0 0))],.cells [I c.session,I c.seen,.d (.sl 3 (c.cache.map AEntry.row))],.cells [S gn.path,S gn.data,I gn.stat.czxid,I gn.stat.mzxid,I gn.stat.pzxid,I gn.stat.version,I gn.stat.cversion,I gn.stat.owner,I gn.stat.kids]] ?_ ?_
    · (refine zW qw (z2 xc hgt) trivial (zc ?_ (zc ?_ (zc ?_ (z4 ?_ ?_ ?_ ?_))))<;>(repeat with_reducible intro hc))
      all_goals first | (exfalso;omega) | skip
      all_goals exact zFr [0,1,2,3,4,5] @k1
    simp only [go_sem]
    have hkp:=JQ c ⟨rq.path,gn.data,decide (ge=0)⟩ (by rw [hcc];exact hck.1) (by rw [hcc];exact hck.2)
    have k3:=LF (w:=w.setS i { w.s i with watches:=wl }) e3 hk
    (refine zW qs (z1 hkp) trivial (z2 ?_ ?_)<;>(repeat with_reducible intro hc))
    all_goals first | (exfalso;omega) | contradiction | (exfalso;simp_all;done) | skip
    refine AWP.meetB [0,3,4,5,6,7,10] [] [.cells (wC (cw ((w.setS i { w.s i with watches:=wl }).setC k ⟨c.session,c.seen,iU c.cache ⟨rq.path,gn.data,decide (ge=0)⟩⟩)) 1),.rows 7 (w.done.map ATxn.row),.cells [I kind,I (k:Int),I (i:Int),I rq.op,I rq.session,S rq.path,S rq.data,I rq.version,I rq.flags,I lost,I slow,I keep,B true],.cells [I 0,I 0,S [],S [],I 0,I 0,I 0,I 0,I 0,I 0,I 0,.d (.sc (.slice none 0 0))],.cells [I c.session,I c.seen,.d (.sl 3 ((iU c.cache ⟨rq.path,gn.data,decide (ge=0)⟩).map AEntry.row))],.cells [S gn.path,S gn.data,I gn.stat.czxid,I gn.stat.mzxid,I gn.stat.pzxid,I gn.stat.version,I gn.stat.cversion,I gn.stat.owner,I gn.stat.kids]] ?_ ?_
    · (refine zW qw (z1 xc) trivial (z1 ?_)<;>(repeat with_reducible intro hc))
      all_goals first | (exfalso;omega) | skip
      all_goals exact zFr [0,1,2,3,4,5] @k3
    simp only [go_sem]
    have hws2:((w.setS i { w.s i with watches:=wl }).setC k ⟨c.session,c.seen,iU c.cache ⟨rq.path,gn.data,decide (ge=0)⟩⟩).s=(w.setS i { w.s i with watches:=wl }).s:=rfl
    (refine zW qw (z1 xc) (zx @hws2 @hws) (z1 ?_)<;>(repeat with_reducible intro hc))
    all_goals first | (exfalso;omega) | contradiction | (exfalso;simp_all;done) | skip
    all_goals (refine zO ?_ ?_;(focus ((try simp (disch:=omega) only [go_sem,aa])<;>fail));simp (disch:=omega) only [go_sem,aa];exact ag.worldV (r:=⟨ge,(w.s i).tree.zxid,gn.path,gn.data,gn.stat,[]⟩) (rfl) rfl rfl rfl)
theorem bH.log {w:AWorld} {n:Nat} (h:bH w n) {j:Nat} (hj:j < 3):(w.s j).peer.log.length≤n:=by
  obtain ⟨⟨g,es,K,h1⟩,_,_⟩:=h
  obtain ⟨_,hu,hd⟩:=h1.sv j hj
  cases e:(w.s j).up
  · obtain ⟨_,_,hk,_⟩:=hd e
    rw [hk.log];exact Nat.zero_le _
  · obtain ⟨_,_,_,hlg,_⟩:=hu e
    rw [hlg];exact h1.small j hj
theorem bH.few {w:AWorld} {n:Nat} (h:bH w n):w.done.length≤n:=by
  obtain ⟨⟨g,es,K,h1⟩,_,_⟩:=h
  obtain ⟨i,j,hi,_,_,⟨_,ha⟩,_⟩:=h1.pr.k1
  exact Nat.le_trans h1.ack.length_le (Nat.le_trans ha (Nat.le_trans (h1.pr.al i hi) (h1.small i hi)))
theorem bH.wl {w:AWorld} {n:Nat} (h:bH w n):WL w:=by
  obtain ⟨⟨g,es,K,h1⟩,_,_⟩:=h
  exact ⟨h1.sl,h1.fl,h1.cl⟩
theorem bH.ld {w:AWorld} {n:Nat} (h:bH w n):w.leader < 3:=by
  obtain ⟨⟨g,es,K,h1⟩,_,_⟩:=h
  by_cases hl:0≤w.leader
  · exact (h1.pr.ld0 hl).1
  · omega
theorem bH.sgs {w:AWorld} {n:Nat} (h:bH w n) (hn:n < 1000) {j:Nat} (hj:j < 3):SG (w.s j):=by
  obtain ⟨a,b,c,d,e⟩:=h.server hn hj
  exact ⟨⟨a,b,fun x hx=>by have:=(d x hx).2;omega⟩,c,e.1⟩
theorem bH.cache {w:AWorld} {n:Nat} (h:bH w n) (hn:n < 1000) {i:Nat} (hi:i < 16):(w.c i).cache.length≤100000∧aY ((w.c i).cache.map AEntry.path):=by
  obtain ⟨_,_,a,b,_⟩:=h.client hn hi
  exact ⟨by omega,a⟩
theorem bH.el {w:AWorld} {n:Nat} (h:bH w n) (hn:n < 1000):ElOk w:=
  ⟨h.wl,fun _ hi=>(h.sgs hn hi).gs,fun i hi=>by have:=h.log hi;omega,fun _ hi=>(h.sgs hn hi).v,fun _ hi=>h.cache hn hi,by have:=h.few;omega⟩
theorem bH.rd {w:AWorld} {n:Nat} (h:bH w n) (hn:n < 1000):RdOk w:=
  ⟨h.wl,fun _ hi=>⟨(h.sgs hn hi).gs.t.1.2.1.1,aT (h.sgs hn hi).g⟩,fun _ hi=>by have:=(h.sgs hn hi).v;omega,fun _ hi=>h.cache hn hi⟩
theorem bH.wr {w:AWorld} {n:Nat} (h:bH w n) (hn:n < 1000):WrOk w:=by
  refine ⟨h.wl,fun _ hi=>h.sgs hn hi,fun i hi=>by have:=h.log hi;omega,fun _ hi=>h.cache hn hi,fun i hi=>(h.client hn hi).1.1,by have:=h.few;omega,h.ld,fun i hi hl0=>.inl ?_⟩
  obtain ⟨⟨g,es,K,h⟩,_,_⟩:=h
  obtain ⟨hl3,hlE⟩:=h.pr.ld0 hl0
  have hli:w.leader.toNat < 3:=by omega
  obtain ⟨hlf,hldone⟩:=h.lead hl0
  obtain ⟨hlu,_⟩:=h.fol hl0 _ hli hlf
  obtain ⟨ee,he,hk,hlg,hep⟩:=(h.sv _ hli).2.1 hlu
  obtain ⟨z0,z1,z2⟩:=h.lastOk hli
  obtain ⟨n1,n2,n3,n4⟩:=BS (p:=(w.s w.leader.toNat).peer) (n:=n) (by omega) h.pr.es0 h.pr.esn (by rw [hep,hlE]) (by rw [hlg];exact z0) (by rw [hlg];exact z1) (by rw [hlg];exact z2)
  rw [hlg] at n4
  rcases (h.cli _ hi).2.2.2.2 hl0 with a | a<;>omega
theorem bH.deed {w:AWorld} {n:Nat} (h:bH w n) (d:Int):bH { w with deeds:=d } n:=by
  obtain ⟨⟨g,es,K,h1⟩,h2,h3⟩:=h
  exact ⟨⟨g,es,K,h1.deeds d⟩,h2,h3⟩
set_option maxHeartbeats 16000000 in
theorem nA (w:AWorld) (d:ADeed) (n:Nat) (h:bH w n) (hn:n < 1000) (h0:0≤w.deeds) (hdw:d.wf) (hdp:d.request.path.length≤1048576):ab Tryz.prog (inW w) 17 [.ptr 0 0,d.av] (cH (doW w d).1 (doW w d).2):=by
  unfold doW
  by_cases h3:300≤w.deeds
  · rw [if_pos h3]
    unfold inW cH
    refine zJ Tryz.func17 Tryz.ntmps17 Tryz.results17 ?_;simp only [go_sem]
    (refine zW qw zn trivial (z1 ?_)<;>(repeat with_reducible intro hc))
    all_goals first | (exfalso;omega) | contradiction | (exfalso;simp_all;done) | skip
    all_goals (refine zO ?_ ?_;(focus ((try simp (disch:=omega) only [go_sem,aa])<;>fail));simp (disch:=omega) only [go_sem,aa];exact ag.worldV (r:=noR 6) (rfl) rfl rfl rfl)
  rw [if_neg h3]
  have h:=h.deed (w.deeds+1)
  have hwr:=EJ { w with deeds:=w.deeds+1 } d (h.wr hn) hdw hdp
  have hrd:=Kw { w with deeds:=w.deeds+1 } d (h.rd hn) hdw
  have hel:=Fc { w with deeds:=w.deeds+1 } (h.el hn)
  have hcr:=fun i hi ii hii=>FU { w with deeds:=w.deeds+1 } i d.keep hi h.wl (h.server hn hi).1 ii hii
  have hup:=fun i hi ii hii=>M4 { w with deeds:=w.deeds+1 } i hi h.wl (h.server hn hi).1 ii hii
  have k1:(cw w).setD (w.deeds+1)=cw { w with deeds:=w.deeds+1 }:=rfl
  have k2:w.done=({ w with deeds:=w.deeds+1 }:AWorld).done:=rfl
  generalize ({ w with deeds:=w.deeds+1 }:AWorld)=w' at hwr hrd hel hcr hup k1 k2 ⊢
  unfold mc
  by_cases q1:d.kind=1
  · rw [if_pos q1]
    unfold inW cH avN at hwr
    unfold inW cH
    generalize da w' d=R at hwr ⊢
    obtain ⟨u,r⟩:=R
    simp only at hwr ⊢
    refine zJ Tryz.func17 Tryz.ntmps17 Tryz.results17 ?_;simp only [go_sem]
    (refine zW qw (z1 (ac [0,1] hwr)) (zx @k1 @k2) (z1 ?_)<;>(repeat with_reducible intro hc))
    all_goals first | (exfalso;omega) | contradiction | (exfalso;simp_all;done) | skip
    refine zO ?_ ?_
    · simp (disch:=omega) only [go_sem,aa]
    simp (disch:=omega) only [go_sem,aa]
    exact ag.worldM 4 5 (r:=r) rfl rfl rfl (by decide) rfl (by decide)
  rw [if_neg q1]
  by_cases q2:d.kind=2
  · rw [if_pos q2]
    unfold inW cH avN at hrd
    unfold inW cH
    generalize gV w' d=R at hrd ⊢
    obtain ⟨u,r⟩:=R
    simp only at hrd ⊢
    refine zJ Tryz.func17 Tryz.ntmps17 Tryz.results17 ?_;simp only [go_sem]
    (refine zW qw (z1 (ac [0,1] hrd)) (zx @k1 @k2) (z1 ?_)<;>(repeat with_reducible intro hc))
    all_goals first | (exfalso;omega) | contradiction | (exfalso;simp_all;done) | skip
    refine zO ?_ ?_
    · simp (disch:=omega) only [go_sem,aa]
    simp (disch:=omega) only [go_sem,aa]
    exact ag.worldM 4 5 (r:=r) rfl rfl rfl (by decide) rfl (by decide)
  rw [if_neg q2]
  by_cases q5:d.kind=5
  · rw [if_pos q5]
    unfold inW cH avN at hel
    unfold inW cH
    generalize dv w'=R at hel ⊢
    obtain ⟨u,r⟩:=R
    simp only at hel ⊢
    refine zJ Tryz.func17 Tryz.ntmps17 Tryz.results17 ?_;simp only [go_sem]
    (refine zW qw (z1 (ac [0,1] hel)) (zx @k1 @k2) (z1 ?_)<;>(repeat with_reducible intro hc))
    all_goals first | (exfalso;omega) | contradiction | (exfalso;simp_all;done) | skip
    refine zO ?_ ?_
    · simp (disch:=omega) only [go_sem,aa]
    simp (disch:=omega) only [go_sem,aa]
    exact ag.worldM 4 5 (r:=r) rfl rfl rfl (by decide) rfl (by decide)
  rw [if_neg q5]
  by_cases q3:d.kind=3∨d.kind=4
  case neg=>
    rw [if_neg q3]
    unfold inW cH
    refine zJ Tryz.func17 Tryz.ntmps17 Tryz.results17 ?_;simp only [go_sem]
    (refine zW qw zn (zx @k1 @k2) (z1 ?_)<;>(repeat with_reducible intro hc))
    all_goals first | (exfalso;omega) | contradiction | (exfalso;simp_all;done) | skip
    all_goals (refine zO ?_ ?_;(focus ((try simp (disch:=omega) only [go_sem,aa])<;>fail));simp (disch:=omega) only [go_sem,aa];exact ag.worldV (r:=noR 4) (rfl) rfl rfl rfl)
  rw [if_pos q3]
  by_cases hs:d.server < 0∨3≤d.server
  · rw [if_pos hs]
    unfold inW cH
    refine zJ Tryz.func17 Tryz.ntmps17 Tryz.results17 ?_;simp only [go_sem]
    (refine zW qw zn (zx @k1 @k2) (z2 ?_ ?_)<;>(repeat with_reducible intro hc))
    all_goals first | (exfalso;omega) | contradiction | (exfalso;simp_all;done) | skip
    all_goals (refine zO ?_ ?_;(focus ((try simp (disch:=omega) only [go_sem,aa])<;>fail));simp (disch:=omega) only [go_sem,aa];exact ag.worldV (r:=noR 3) (rfl) rfl rfl rfl)
  rw [if_neg hs]
  have hi:d.server.toNat < 3:=by omega
  by_cases q4:d.kind=4
  · rw [if_pos q4]
    have hup:=hup d.server.toNat hi d.server (by omega)
    unfold inW cH avN at hup
    unfold inW cH
    generalize upW w' d.server.toNat=R at hup ⊢
    obtain ⟨u,r⟩:=R
    simp only at hup ⊢
    refine zJ Tryz.func17 Tryz.ntmps17 Tryz.results17 ?_;simp only [go_sem]
    (refine zW qw (z1 (ac [0,1] hup)) (zx @k1 @k2) (z1 ?_)<;>(repeat with_reducible intro hc))
    all_goals first | (exfalso;omega) | contradiction | (exfalso;simp_all;done) | skip
    refine zO ?_ ?_
    · simp (disch:=omega) only [go_sem,aa]
    simp (disch:=omega) only [go_sem,aa]
    exact ag.worldM 4 5 (r:=r) rfl rfl rfl (by decide) rfl (by decide)
  rw [if_neg q4]
  · have hcr:=hcr d.server.toNat hi d.server (by omega)
    unfold inW cH avN at hcr
    unfold inW cH
    generalize dN w' d.server.toNat d.keep=R at hcr ⊢
    obtain ⟨u,r⟩:=R
    simp only at hcr ⊢
    refine zJ Tryz.func17 Tryz.ntmps17 Tryz.results17 ?_;simp only [go_sem]
    (refine zW qw (z1 (ac [0,1] hcr)) (zx @k1 @k2) (z1 ?_)<;>(repeat with_reducible intro hc))
    all_goals first | (exfalso;omega) | contradiction | (exfalso;simp_all;done) | skip
    refine zO ?_ ?_
    · simp (disch:=omega) only [go_sem,aa]
    simp (disch:=omega) only [go_sem,aa]
    exact ag.worldM 4 5 (r:=r) rfl rfl rfl (by decide) rfl (by decide)
theorem M9:Pls [Plan.takes [0,1,2,3,8,9,4,5,6,7,10,11] .done,Plan.takes [0,1,2,3,8,9,4,5,6,7,10,11] .done]:=pls _
def zS:AServer:=⟨false,⟨[]⟩,⟨0,0,[],0⟩,⟨0,[],[]⟩,[]⟩
def zC:AClient:=⟨0,0,[]⟩
def nW (a b:Nat):CW:=⟨fun j=>if j < a then (cD (j:Int) []).1 else zS,fun j=>if j < b then ⟨(j:Int)+1,0,[]⟩ else zC,-1,fun _=>false,0,0⟩
theorem nW_s (a b:Nat):(nW a b).setS a (cD (a:Int) []).1=nW (a+1) b:=by
  have:(fun j=>if j=a then (cD (a:Int) []).1 else (nW a b).s j)=(nW (a+1) b).s:=funext fun j=>by
    show _=if j < a+1 then (cD (j:Int) []).1 else zS
    by_cases e:j=a
    · subst e;rw [if_pos rfl,if_pos (by omega)]
    · rw [if_neg e]
      show (if j < a then (cD (j:Int) []).1 else zS)=_
      by_cases h:j < a
      · rw [if_pos h,if_pos (by omega)]
      · rw [if_neg h,if_neg (by omega)]
  show CW.mk _ _ _ _ _ _=_
  rw [this];rfl
theorem nW_c (a b:Nat):(nW a b).setC b ⟨(b:Int)+1,0,[]⟩=nW a (b+1):=by
  have:(fun j=>if j=b then (⟨(b:Int)+1,0,[]⟩:AClient) else (nW a b).c j)=(nW a (b+1)).c:=funext fun j=>by
    show _=if j < b+1 then (⟨(j:Int)+1,0,[]⟩:AClient) else zC
    by_cases e:j=b
    · subst e;rw [if_pos rfl,if_pos (by omega)]
    · rw [if_neg e]
      show (if j < b then (⟨(j:Int)+1,0,[]⟩:AClient) else zC)=_
      by_cases h:j < b
      · rw [if_pos h,if_pos (by omega)]
      · rw [if_neg h,if_neg (by omega)]
  show CW.mk _ _ _ _ _ _=_
  rw [this];rfl
theorem Li (k:Nat):wC (nW 3 16) k=wC (cw dF) k:=by
  unfold wC
  rfl
theorem IR {k:Nat} (h:k < 16):Ik ((k:Int)+1)=(⟨(k:Int)+1,0,[]⟩,0):=by
  unfold Ik
  rw [if_neg (by omega)]
theorem nW_z (k:Nat):wC (nW 0 0) k=[.d (.bool false),.d (.sl 3 []),I 0,I 0,.d (.sl 7 []),I 0,I 0,.d (.sl 9 []),.d (.sl 1 []),.d (.sl 3 []),.d (.bool false),.d (.sl 3 []),I 0,I 0,.d (.sl 7 []),I 0,I 0,.d (.sl 9 []),.d (.sl 1 []),.d (.sl 3 []),.d (.bool false),.d (.sl 3 []),I 0,I 0,.d (.sl 7 []),I 0,I 0,.d (.sl 9 []),.d (.sl 1 []),.d (.sl 3 []),
  I 0,I 0,.d (.sl 3 []),I 0,I 0,.d (.sl 3 []),I 0,I 0,.d (.sl 3 []),I 0,I 0,.d (.sl 3 []),I 0,I 0,.d (.sl 3 []),I 0,I 0,.d (.sl 3 []),I 0,I 0,.d (.sl 3 []),I 0,I 0,.d (.sl 3 []),I 0,I 0,.d (.sl 3 []),I 0,I 0,.d (.sl 3 []),I 0,I 0,.d (.sl 3 []),I 0,I 0,.d (.sl 3 []),I 0,I 0,.d (.sl 3 []),I 0,I 0,.d (.sl 3 []),I 0,I 0,.d (.sl 3 []),I 0,I 0,.d (.sl 3 []),
  I (-1),B false,B false,B false,.osl k 7 0 0,I 0]:=rfl
set_option maxHeartbeats 16000000 in
theorem Fa:ab Tryz.prog [] 16 [] (cu (.ptr 0 0) [.cells (wC (cw dF) 1),.rows 7 []]):=by
  refine zJ Tryz.func16 Tryz.ntmps16 Tryz.results16 ?_;simp only [go_sem]
  (refine zW qw zn trivial (z1 ?_)<;>(repeat with_reducible intro hc))
  refine AWP.weaken (aG.trans (aG.nilOwnC 0 82 7 rfl rfl) (aG.coeB (cs':=wC (nW 0 0) 1) 0 rfl (by rw [nW_z];simp (disch:=omega) only [go_sem,aa];exact lL _))) ?_
  simp only [go_sem]
  refine AWP.loopB (ι:=Nat) (fun v=>v≤3) (fun v=>3 - v) [1] (fun v=>[(6,I v)]) (fun v=>[.cells (wC (nW v 0) 1),.rows 7 []]) 0 ?_ ?_ ?_
  · exact Nat.zero_le _
  · simp only [go_sem];exact zFr [0,1] trivial
  intro v hv
  simp only [go_sem]
  by_cases hk:v < 3
  · have hb:=GX (v:Int) ⟨[]⟩ (by simp) (fun f hf=>by cases hf)
    have k1:=nW_s v 0
    simp only at hb
    generalize cD (v:Int) []=q at hb k1
    obtain ⟨s,e⟩:=q
    simp only at hb k1
    (refine zW qw (z2 M9 hb) trivial (z1 ?_)<;>(repeat with_reducible intro hc))
    all_goals first | (exfalso;omega) | contradiction | (exfalso;simp_all;done) | skip
    all_goals (refine ⟨v+1,by omega,by omega,?_⟩;exact zFr [0,1] @k1)
  obtain rfl:v=3:=by omega
  (refine zW qw zn trivial (z1 ?_)<;>(repeat with_reducible intro hc))
  all_goals first | (exfalso;omega) | contradiction | (exfalso;simp_all;done) | skip
  clear hv hk
  refine AWP.loopB (ι:=Nat) (fun v=>v≤16) (fun v=>16 - v) [1] (fun v=>[(21,I v)]) (fun v=>[.cells (wC (nW 3 v) 1),.rows 7 []]) 0 ?_ ?_ ?_
  · exact Nat.zero_le _
  · simp only [go_sem];exact zFr [0,1] trivial
  intro v hv
  simp only [go_sem]
  by_cases hk:v < 16
  · have hb:=LP ((v:Int)+1)
    rw [IR hk] at hb
    have k2:=Na (nW 3 v) 1 v hk ((v:Int)+1) 0 []
    rw [nW_c 3 v,List.map_nil] at k2
    (refine zW qw (z2 M9 hb) trivial (z1 ?_)<;>(repeat with_reducible intro hc))
    all_goals first | (exfalso;omega) | contradiction | (exfalso;simp_all;done) | skip
    all_goals (refine ⟨v+1,by omega,by omega,?_⟩;exact zFr [0,1] @k2)
  obtain rfl:v=16:=by omega
  (refine zW qw zn trivial (z1 ?_)<;>(repeat with_reducible intro hc))
  all_goals first | (exfalso;omega) | contradiction | (exfalso;simp_all;done) | skip
  rw [Li]
  refine zO ?_ ?_
  · simp (disch:=omega) only [go_sem,aa]
  simp (disch:=omega) only [go_sem,aa]
  exact ag.done rfl rfl
def qV (w:AWorld):List ADeed→AWorld×List AReply
  | []=>(w,[])
  | d::l=>((qV (doW w d).1 l).1,(doW w d).2::(qV (doW w d).1 l).2)
structure RnInv (l:List ADeed) (v:Nat×AWorld×List AReply):Prop where
  k:v.1≤l.length
  f:v.2.2++(qV v.2.1 (l.drop v.1)).2=(qV dF l).2
  a:bH v.2.1 v.1
  d:v.2.1.deeds≤v.1
  d0:0≤v.2.1.deeds
  n:v.2.2.length=v.1
theorem jv {w:AWorld} {d:ADeed}:0≤w.deeds→0≤(doW w d).1.deeds∧(doW w d).1.deeds≤w.deeds+1:=by
  intro h0
  by_cases h:w.deeds < 300
  · rw [wP h];omega
  · rw [B8 (by omega)];simp only;omega
theorem RnInv.next {l:List ADeed} {v:Nat×AWorld×List AReply} (h:RnInv l v) (hk:v.1 < l.length) (hl:l.length≤300) {u:AWorld} {r:AReply} (hR:doW v.2.1 (l.getD v.1 default)=(u,r)):RnInv l (v.1+1,u,v.2.2++[r]):=by
  obtain ⟨h1,h2,h3,h4,h5,h6⟩:=h
  have hd:l.drop v.1=l.getD v.1 default::l.drop (v.1+1):=by
    rw [List.drop_eq_getElem_cons hk,List.getD_eq_getElem?_getD,List.getElem?_eq_getElem hk];rfl
  rw [hd,qV,hR] at h2
  have ha:=h3.does (by omega) (l.getD v.1 default)
  have hb:=jv (d:=l.getD v.1 default) h5
  rw [hR] at ha hb
  simp only at hb
  exact ⟨hk,by simpa using h2,ha,by simp only;omega,hb.1,by simp only [List.length_append,List.length_singleton];omega⟩
theorem RnInv.end {l:List ADeed} {v:Nat×AWorld×List AReply} (h:RnInv l v) (hk:¬ v.1 < l.length):v.2.2=(qV dF l).2:=by
  have h2:=h.f
  rw [List.drop_eq_nil_of_le (by omega),qV,List.append_nil] at h2
  exact h2
theorem qTo0:Pls [Plan.takes [0,1,2,3,4,5,6,7,8] .done]:=pls _
def fw:ADeed:=⟨1,0,0,⟨1,0,[],[],0,0⟩,0,0,0,false⟩
theorem Iq:(doW dF ba).2.code=0∧(doW dF ba).1.leader=2∧(doW (doW dF ba).1 fw).2.code=0∧(doW (doW dF ba).1 fw).2.zxid=2147483649∧(doW (doW dF ba).1 fw).1.done.length=1∧(doW dF ba).1.deeds=1:=by decide +kernel
theorem Jv (w:AWorld) (d:ADeed) (r:AReply):ab Tryz.prog (inW w) 26 [.ptr 0 0,d.av,r.av] (cu (B true) (inW w)):=by
  unfold inW
  refine zJ Tryz.func26 Tryz.ntmps26 Tryz.results26 ?_;simp only [go_sem]
  (refine zW qw zn trivial (z1 ?_)<;>(repeat with_reducible intro hc))
  (refine zO ?_ ?_;(focus ((try simp (disch:=omega) only [go_sem,aa])<;>fail));simp (disch:=omega) only [go_sem,aa];refine ag.of_simp ?_ (ag.same ⟨rfl,rfl⟩);refine zV [0,1] rfl rfl rfl rfl ?_ ?_<;>simp (disch:=omega) only [go_sem,aa,true_or,or_true])
set_option maxHeartbeats 16000000 in
theorem JX:ab Tryz.prog [] 65 [] (ret (B true)):=by
  obtain ⟨q1,q2,q3,q4,q5,q6⟩:=Iq
  have a1:=bH.start.does (by decide) ba
  have d1:ab Tryz.prog [.cells (wC (cw dF) 1),.rows 7 []] 17 [.ptr 0 0,ADeed.av ⟨5,0,0,⟨0,0,[],[],0,0⟩,0,0,0,false⟩] (cH (doW dF ba).1 (doW dF ba).2):=nA dF ba 0 bH.start (by decide) (Int.le_refl _) (by unfold ba ADeed.wf ARequest.wf okI okS;decide) (by decide)
  unfold inW cH avN at d1
  generalize doW dF ba=R at *
  obtain ⟨u,r⟩:=R
  simp only at q1 q2 q3 q4 q5 q6 a1 d1
  have d2:ab Tryz.prog (inW u) 17 [.ptr 0 0,ADeed.av ⟨1,0,0,⟨1,0,[],[],0,0⟩,0,0,0,false⟩] (cH (doW u fw).1 (doW u fw).2):=nA u fw 1 a1 (by decide) (by omega) (by unfold fw ADeed.wf ARequest.wf okI okS;decide) (by decide)
  have a2:=a1.does (by decide) fw
  have l2:=a2.few
  unfold inW cH avN at d2
  generalize doW u fw=Q at *
  obtain ⟨u2,r2⟩:=Q
  simp only at q3 q4 q5 a2 l2 d2
  have hld:=lO u
  have hak:=vn u2 (by omega)
  unfold inW at hld hak
  refine zJ Tryz.func65 Tryz.ntmps65 Tryz.results65 ?_;simp only [go_sem]
  (refine zW qw (zc Fa (z4 (ad [0,1] d1) (ad [0,2] d2) (ac [0,2] hld) (ac [0,4] hak))) (zx @q1 (zx @q2 (zx @q3 (zx @q4 @q5)))) (z1 ?_)<;>(repeat with_reducible intro hc))
  all_goals first | (exfalso;omega) | contradiction | (exfalso;simp_all;done) | skip
  all_goals exact zEe @q5
structure PlInv (l:List ADeed) (v:Nat×AWorld):Prop where
  k:v.1≤l.length
  m:v.1≤100
  w:v.2=dP dF (l.take v.1)
  a:bH v.2 v.1
  d0:0≤v.2.deeds
  d1:v.2.deeds≤v.1
theorem yt (w:AWorld) (l:List ADeed) (d:ADeed):dP w (l++[d])=(doW (dP w l) d).1:=by
  unfold dP
  rw [List.foldl_append];rfl
theorem PlInv.start (l:List ADeed):PlInv l (0,dF):=⟨Nat.zero_le _,Nat.zero_le _,by simp only [List.take_zero];rfl,bH.start,Int.le_refl _,Int.le_refl _⟩
theorem PlInv.next {l:List ADeed} {v:Nat×AWorld} (h:PlInv l v) (hk:v.1 < l.length) (hm:v.1 < 100) {u:AWorld} {r:AReply} (hR:doW v.2 (l.getD v.1 default)=(u,r)):PlInv l (v.1+1,u):=by
  obtain ⟨h1,h2,h3,h4,h5,h6⟩:=h
  have ha:=h4.does (by omega) (l.getD v.1 default)
  have hb:=jv (d:=l.getD v.1 default) h5
  have hw:=yt dF (l.take v.1) (l.getD v.1 default)
  rw [←cm l _ hk,←h3] at hw
  rw [hR] at ha hb hw
  simp only at hb hw
  exact ⟨hk,hm,hw.symm,ha,hb.1,by simp only;omega⟩
theorem PlInv.end {l:List ADeed} {v:Nat×AWorld} (h:PlInv l v) (hk:¬ (v.1 < l.length∧v.1 < 100)):v.2=dP dF (l.take 100):=by
  have h1:=h.k
  have h2:=h.m
  rw [h.w]
  by_cases e:v.1=100
  · rw [e]
  · rw [List.take_of_length_le (i:=v.1) (by omega),List.take_of_length_le (i:=100) (by omega)]
def BZ (g:FuncId):Prop:=∀ (w:AWorld) (d:ADeed) (n:Nat),bH w n→n < 100→0≤w.deeds→w.deeds≤n→d.wf→d.request.path.length≤1048576→ab Tryz.prog (inW (doW w d).1) g [.ptr 0 0,d.av,(doW w d).2.av] (cu (B true) (inW (doW w d).1))
set_option maxHeartbeats 16000000 in
theorem oV (g:FuncId) (hg:BZ g) (l:List ADeed) (hl:∀ d,d∈l→d.wf∧d.request.path.length≤1048576) (hll:l.length≤1048576):ab Tryz.prog [] 25 [.d (.sl 13 (l.map ADeed.row)),.d (.sc (.func (.func g) #[] #[]))] (cu (.tup [.ptr 0 0,B true]) (inW (dP dF (l.take 100)))):=by
  refine zJ Tryz.func25 Tryz.ntmps25 Tryz.results25 ?_;simp only [go_sem]
  (refine zW qw (z2 JX Fa) trivial (z1 ?_)<;>(repeat with_reducible intro hc))
  all_goals first | (exfalso;omega) | contradiction | (exfalso;simp_all;done) | skip
  refine AWP.loopB (ι:=Nat×AWorld) (fun v=>PlInv l v) (fun v=>l.length - v.1) [0,1,6] (fun v=>[(7,I v.1)]) (fun v=>[.cells (wC (cw v.2) 1),.rows 7 (v.2.done.map ATxn.row)]) (0,dF) ?_ ?_ ?_
  · exact PlInv.start l
  · simp only [go_sem];exact zFr [0,1] trivial
  intro v hv
  simp only [go_sem]
  have hvk:=hv.k
  have hvm:=hv.m
  have hvd:=hv.d1
  by_cases hk:v.1 < l.length∧v.1 < 100
  · have hdm:l.getD v.1 default∈l:=by rw [List.getD_eq_getElem?_getD,List.getElem?_eq_getElem hk.1];exact List.getElem_mem hk.1
    have hdo:=nA v.2 (l.getD v.1 default) v.1 hv.a (by omega) hv.d0 (hl _ hdm).1 (hl _ hdm).2
    have hlk:=hg v.2 (l.getD v.1 default) v.1 hv.a hk.2 hv.d0 hv.d1 (hl _ hdm).1 (hl _ hdm).2
    unfold inW cH avN at hdo
    unfold inW at hlk
    generalize hR:doW v.2 (l.getD v.1 default)=R at hdo hlk
    obtain ⟨u,r⟩:=R
    simp only at hdo hlk
    have hnx:=hv.next hk.1 hk.2 hR
    (refine zW qw (z3 qTo0 (ad [0,1] hdo) (ac [0,2] hlk)) trivial (z1 ?_)<;>(repeat with_reducible intro hc))
    all_goals first | (exfalso;omega) | contradiction | (exfalso;simp_all;done) | skip
    all_goals refine ⟨(v.1+1,u),hnx,by simp only;omega,?_⟩
    all_goals exact zFr [0,2] trivial
  · have he:=hv.end hk
    (refine zW qw zn trivial (z1 ?_)<;>(repeat with_reducible intro hc))
    all_goals first | (exfalso;omega) | contradiction | (exfalso;simp_all;done) | skip
    rw [←he]
    refine zO ?_ ?_
    · simp (disch:=omega) only [go_sem,aa]
    simp (disch:=omega) only [go_sem,aa]
    exact ag.done rfl rfl
theorem iR:BZ 26:=fun w d _ _ _ _ _ _ _=>Jv _ _ _
theorem bH.all:∀ (l:List ADeed) {w:AWorld} {n:Nat},bH w n→n+l.length≤1000→0≤w.deeds→w.deeds≤n→bH (dP w l) (n+l.length)∧0≤(dP w l).deeds∧(dP w l).deeds≤((n+l.length:Nat):Int)
  | [],w,n,h,_,h0,h1=>⟨h,h0,h1⟩
  | d::l,w,n,h,hn,h0,h1=>by
    rw [List.length_cons] at hn ⊢
    have hb:=jv (d:=d) h0
    have:=bH.all l (h.does (by omega) d) (by omega) hb.1 (by omega)
    rw [show n+(l.length+1)=n+1+l.length by omega]
    exact this
theorem nC (l:List ADeed):∃ n,n≤100∧bH (dP dF (l.take 100)) n∧0≤(dP dF (l.take 100)).deeds∧(dP dF (l.take 100)).deeds≤n:=by
  have hl:(l.take 100).length≤100:=by rw [List.length_take];omega
  have:=bH.all (l.take 100) bH.start (by omega) (Int.le_refl _) (Int.le_refl _)
  rw [Nat.zero_add] at this
  exact ⟨_,hl,this⟩
theorem Ef {t u v:ATree} {Y:List ATxn} (h:bB t Y=some u) {k:Nat} (hk:k < Y.length) (hv:bB t (Y.take k)=some v):(ar v (Y.getD k default)).2.2=0∧bB t (Y.take (k+1))=some (ar v (Y.getD k default)).1:=by
  obtain ⟨v',h'⟩:=ie h (k+1)
  have h2:=h'
  rw [cm Y _ hk,lT,hv] at h'
  change bB v [Y.getD k default]=some v' at h'
  rw [bB] at h'
  split at h'
  · rename_i he
    rw [bB] at h'
    exact ⟨he,h2.trans h'.symm⟩
  · cases h'
structure TrInv (Y:List ATxn) (v:Nat×ATree):Prop where
  k:v.1≤Y.length
  p:bB t00 (Y.take v.1)=some v.2
set_option maxHeartbeats 16000000 in
theorem AT (l:List ADeed) (hl:∀ d,d∈l→d.wf∧d.request.path.length≤1048576) (hll:l.length≤1048576):ab Tryz.prog [] 6 [.d (.sl 13 (l.map ADeed.row))] (ret (B true)):=by
  have hp:=oV 26 iR l hl hll
  obtain ⟨n,hn,ha,hd0,hd1⟩:=nC l
  generalize dP dF (l.take 100)=w at hp ha hd0 hd1
  unfold inW at hp
  refine zJ Tryz.func6 Tryz.ntmps6 Tryz.results6 ?_;simp only [go_sem]
  (refine zW qw (z1 hp) trivial (z1 ?_)<;>(repeat with_reducible intro hc))
  all_goals first | (exfalso;omega) | contradiction | skip
  refine AWP.loopB (ι:=Nat) (fun v=>v≤3) (fun v=>3 - v) [3] (fun v=>[(5,I v)]) (fun v=>[.cells (wC (cw w) 1),.rows 7 (w.done.map ATxn.row)]) 0 ?_ ?_ ?_
  · omega
  · simp only [go_sem];exact zFr [0,1] trivial
  intro v hv
  simp only [go_sem]
  by_cases hk:v < 3
  · obtain ⟨hs,ho,hgo,hlx,_⟩:=ha.server (by omega) hk
    obtain ⟨t1,t2,t3,t4⟩:0≤(w.s v).peer.done∧(w.s v).peer.done≤(w.s v).peer.log.length∧bB t00 ((w.s v).peer.log.take (w.s v).peer.done.toNat)=some (w.s v).tree∧aJ (w.s v).tree=true:=by
      obtain ⟨⟨g,es,K,h1⟩,_,_⟩:=ha
      exact h1.trees hk
    have hsv:=e8 w v hk hs v rfl
    unfold inW at hsv
    have hl7:=hs.2.2.1.2.2.1.1
    have hst:=pN (w.s v).tree hs.2.2.2.1
    have hgd:=(iI (w.s v).tree hs.2.2.2.1).re (congrArg B t4)
    have hst':ab Tryz.prog [] 33 [(w.s v).tree.av,(w.s v).tree.av] (ret (B true)):=hst
    generalize w.s v=s at *
    have hYe:List.take s.peer.done.toNat (s.peer.log.map ATxn.row)=(s.peer.log.take s.peer.done.toNat).map ATxn.row:=by rw [List.map_take]
    have hYl:(s.peer.log.take s.peer.done.toNat).length=s.peer.done.toNat:=by rw [List.length_take];omega
    have hYx:∀ x,x∈s.peer.log.take s.peer.done.toNat→x.wf∧x.path.length≤200:=fun x hx=>hlx x (List.mem_of_mem_take hx)
    generalize s.peer.log.take s.peer.done.toNat=Y at *
    have hdn:s.peer.done=(Y.length:Int):=by omega
    have hdt:s.peer.done.toNat=Y.length:=by omega
    rw [hdt] at hYe
    have hYm:min Y.length s.peer.log.length=Y.length:=by omega
    (refine zW qw (z2 (ac [0,1] hsv) F8) (zx @hYe (zx @hdt (zx @hYm @Nat.sub_zero))) (z1 ?_)<;>(repeat with_reducible intro hc))
    all_goals first | (exfalso;omega) | contradiction | skip
    refine AWP.loopB (ι:=Nat×ATree) (fun u=>TrInv Y u) (fun u=>Y.length - u.1) [3,5,6,7,48,49] (fun u=>[(50,I u.1)]) (fun u=>[.cells (wC (cw w) 1),.rows 7 (w.done.map ATxn.row),.cells [B s.up,.d (.sl 3 (s.disk.files.map AFile.row)),I s.peer.id,I s.peer.epoch,.d (.sl 7 (s.peer.log.map ATxn.row)),I s.peer.done,I s.tree.zxid,.d (.sl 9 (s.tree.nodes.map ANode.row)),.d (.sl 1 (s.tree.sessions.map cO)),.d (.sl 3 (s.watches.map AWatch.row))],.cells [I u.2.zxid,.d (.sl 9 (u.2.nodes.map ANode.row)),.d (.sl 1 (u.2.sessions.map cO))]]) (0,t00) ?_ ?_ ?_
    · exact ⟨Nat.zero_le _,rfl⟩
    · simp only [go_sem];exact zFr [0,1,2,3] (zx @hYe (zx @hdt (zx @hYm @Nat.sub_zero)))
    intro u hu
    simp only [go_sem]
    obtain ⟨hu1,hu2⟩:=hu
    by_cases hk2:u.1 < Y.length
    · have hrow:∀ z,List.getD (Y.map ATxn.row) u.1 z=(Y.getD u.1 default).row:=fun z=>ATxn.rgetD Y u.1 z hk2
      obtain ⟨a1,a2⟩:=Ef t3 hk2 hu2
      have hx:=hYx (Y.getD u.1 default) (by rw [List.getD_eq_getElem?_getD,List.getElem?_eq_getElem hk2];exact List.getElem_mem hk2)
      have hgu:=(jC (mb kV hu2)).1.1
      have hap:=fV u.2 (Y.getD u.1 default) hgu (by have:=hx.2;unfold okS;omega) hx.1.2.2.2.2.1
      generalize Y.getD u.1 default=x at hrow a1 a2 hx hap
      generalize ar u.2 x=R at a1 a2 hap
      obtain ⟨tn,ev,er⟩:=R
      simp only at a1 a2 hap
      subst a1
      (refine zW qw (z1 hap) @hrow (z1 ?_)<;>(repeat with_reducible intro hc))
      all_goals first | (exfalso;omega) | contradiction | skip
      all_goals refine ⟨(u.1+1,tn),⟨hk2,a2⟩,by simp only;omega,?_⟩
      all_goals exact zFr [0,1,2,3] trivial
    · have e:u.2=s.tree:=by
        rw [List.take_of_length_le (by omega),t3] at hu2
        injection hu2 with e;exact e.symm
      rw [e]
      (refine zW qw (z2 hst' hgd) trivial (z1 ?_)<;>(repeat with_reducible intro hc))
      all_goals first | (exfalso;omega) | contradiction | skip
      all_goals refine ⟨v+1,by omega,by omega,?_⟩
      all_goals exact zFr [0,1] trivial
  · (refine zW qw zn trivial (z1 ?_)<;>(repeat with_reducible intro hc))
    all_goals first | (exfalso;omega) | contradiction | skip
    all_goals exact zEe trivial
theorem zT (dss:List (List DV)) (h:eZ T 6 Tryz.f6.params.toList dss) (hs:∀ cs,cs∈dss→∀ c,c∈cs→SmallD 1048576 c):ab Tryz.prog [] 6 (fp T Tryz.f6.params.toList dss) (fun v _=>v=B true):=by
  rw [Tryz.params6] at h ⊢
  simp only [List.toList_toArray,eZ] at h
  obtain ⟨c0,d0,rfl,h0,rfl⟩:=h
  have s0:=hs c0 (by simp)
  obtain ⟨l,rfl,v_l,w_l⟩:=u5 (m:=5) (e:=30) (sz:=13) (by_:=120) (f:=ADeed.row) (wf:=ADeed.wf) (by simp only [pj,mK]) (by simp only [mQ,kK]) (by simp only [mQ,kK]) (fun r hr=>dW (m:=2) hr) h0
  have u_l:=s0
  simp only [List.toList_toArray,fp,tv,TI.agg_mk,pj,mK]
  exact (AT l (fun d hd=>⟨w_l d hd,((u_l (DV.sl 13 (l.map ADeed.row)) (by simp)).rows.2 _ (List.mem_map_of_mem hd) (DV.str d.request.path) (by simp [ADeed.row])).len⟩) (by simpa using (u_l (DV.sl 13 (l.map ADeed.row)) (by simp)).rows.1)).mono fun _ _ h=>h.1
theorem qTd0:Pls [Plan.takes [0,1,2,3,4,5,6,7,8,9,10,11,12,14,15] (.fork 13 (Plan.takes [16,17,18] .done) 16 (Plan.takes [13,17,18] .done))]:=pls _
set_option maxHeartbeats 16000000 in
theorem E8 (w:AWorld) (d:ADeed) (r:AReply) (n:Nat) (ha:bH w n) (hn:n < 1000):ab Tryz.prog (inW w) 35 [.ptr 0 0,d.av,r.av] (cu (B true) (inW w)):=by
  unfold inW
  refine zJ Tryz.func35 Tryz.ntmps35 Tryz.results35 ?_;simp only [go_sem]
  (refine zW qw zn trivial (z1 ?_)<;>(repeat with_reducible intro hc))
  all_goals first | (exfalso;omega) | contradiction | skip
  refine AWP.loopB (ι:=Nat) (fun v=>v≤3) (fun v=>3 - v) [0] (fun v=>[(7,I v)]) (fun v=>[.cells (wC (cw w) 1),.rows 7 (w.done.map ATxn.row)]) 0 ?_ ?_ ?_
  · omega
  · simp only [go_sem];exact zFr [0,1] trivial
  intro v hv
  simp only [go_sem]
  by_cases hk:v < 3
  · obtain ⟨hs,_,_,_,_⟩:=ha.server hn hk
    obtain ⟨t1,t2⟩:bL (w.s v).disk.files=true∧((w.s v).up=true→(recoverD (w.s v).disk.files).1=(w.s v).peer.log∧(recoverD (w.s v).disk.files).2.2=0∧fK (w.s v).disk.files=(w.s v).peer.epoch):=by
      obtain ⟨⟨g,es,K,h1⟩,_,_⟩:=ha
      exact h1.disks hk
    have hsv:=e8 w v hk hs v rfl
    unfold inW at hsv
    have hl7:=hs.2.2.1.2.2.1.1
    have hd1:=hs.2.1.1
    have hgd:=(good_d_c (w.s v).disk hs.2.1.1 hs.2.1.2).re (congrArg B t1)
    have hrc:=lF (w.s v).disk hs.2.1.1 hs.2.1.2
    have hep:=uR (w.s v).disk hs.2.1.1 hs.2.1.2
    have hsm:=qt (w.s v).peer.log hl7
    generalize w.s v=s at *
    by_cases hu:s.up=true
    · obtain ⟨t2,t3,t4⟩:=t2 hu
      rw [t4] at hep
      generalize recoverD s.disk.files=R at *
      obtain ⟨rl,rd,re⟩:=R
      simp only at t2 t3 hrc
      subst t2 t3
      (refine zW qw (zc qTd0 (zc (ac [0,1] hsv) (z4 hgd hrc hep hsm))) @hu (z2 ?_ ?_)<;>(repeat with_reducible intro hc))
      all_goals first | (exfalso;omega) | contradiction | skip
      all_goals refine ⟨v+1,by omega,by omega,?_⟩
      all_goals exact zFr [0,1] trivial
    · have hu2:s.up=false:=by simpa using hu
      (refine zW qw (z2 (ac [0,1] hsv) hgd) @hu2 (z1 ?_)<;>(repeat with_reducible intro hc))
      all_goals first | (exfalso;omega) | contradiction | skip
      all_goals refine ⟨v+1,by omega,by omega,?_⟩
      all_goals exact zFr [0,1] trivial
  · (refine zW qw zn trivial (z1 ?_)<;>(repeat with_reducible intro hc))
    all_goals first | (exfalso;omega) | contradiction | skip
    all_goals (refine zO ?_ ?_;(focus ((try simp (disch:=omega) only [go_sem,aa])<;>fail));simp (disch:=omega) only [go_sem,aa];refine ag.of_simp ?_ (ag.same ⟨rfl,rfl⟩);refine zV [0,1] rfl rfl rfl rfl ?_ ?_<;>simp (disch:=omega) only [go_sem,aa,true_or,or_true])
theorem yk:BZ 35:=fun w d n ha hn _ _ _ _=>E8 _ _ _ (n+1) (ha.does (by omega) d) (by omega)
set_option maxHeartbeats 16000000 in
theorem yX (l:List ADeed) (hl:∀ d,d∈l→d.wf∧d.request.path.length≤1048576) (hll:l.length≤1048576):ab Tryz.prog [] 7 [.d (.sl 13 (l.map ADeed.row))] (ret (B true)):=by
  have hp:=oV 35 yk l hl hll
  unfold inW at hp
  refine zJ Tryz.func7 Tryz.ntmps7 Tryz.results7 ?_;simp only [go_sem]
  (refine zW qw (z1 hp) trivial (z1 ?_)<;>(repeat with_reducible intro hc))
  all_goals first | (exfalso;omega) | contradiction | skip
  all_goals exact zEe trivial
theorem zu (dss:List (List DV)) (h:eZ T 6 Tryz.f7.params.toList dss) (hs:∀ cs,cs∈dss→∀ c,c∈cs→SmallD 1048576 c):ab Tryz.prog [] 7 (fp T Tryz.f7.params.toList dss) (fun v _=>v=B true):=by
  rw [Tryz.params7] at h ⊢
  simp only [List.toList_toArray,eZ] at h
  obtain ⟨c0,d0,rfl,h0,rfl⟩:=h
  have s0:=hs c0 (by simp)
  obtain ⟨l,rfl,v_l,w_l⟩:=u5 (m:=5) (e:=30) (sz:=13) (by_:=120) (f:=ADeed.row) (wf:=ADeed.wf) (by simp only [pj,mK]) (by simp only [mQ,kK]) (by simp only [mQ,kK]) (fun r hr=>dW (m:=2) hr) h0
  have u_l:=s0
  simp only [List.toList_toArray,fp,tv,TI.agg_mk,pj,mK]
  exact (yX l (fun d hd=>⟨w_l d hd,((u_l (DV.sl 13 (l.map ADeed.row)) (by simp)).rows.2 _ (List.mem_map_of_mem hd) (DV.str d.request.path) (by simp [ADeed.row])).len⟩) (by simpa using (u_l (DV.sl 13 (l.map ADeed.row)) (by simp)).rows.1)).mono fun _ _ h=>h.1
theorem D3 {w:AWorld} {who:Nat} {x:ATxn} {hv:List Nat} (h:(jF w who x hv).2.code=0):∃ D,(jF w who x hv).1.done=D++[x]∧x.zxid=(jF w who x hv).2.zxid:=by
  unfold jF at h ⊢
  simp only at h ⊢
  generalize bq hv w []=R at h ⊢
  by_cases h1:R.2.2≠0
  · rw [if_pos h1] at h;exact absurd h h1
  rw [if_neg h1] at h ⊢
  generalize eW ((eA { R.1 with done:=R.1.done++[x] } R.2.1).c who) x.zxid=Q at h ⊢
  by_cases h2:Q.2≠0
  · rw [if_pos h2] at h;exact absurd h h2
  rw [if_neg h2]
  exact ⟨R.1.done,rfl,rfl⟩
theorem zh {w:AWorld} {d:ADeed} (h:(da w d).2.code=0):∃ D x,(da w d).1.done=D++[x]∧x.zxid=(da w d).2.zxid:=by
  unfold da at h ⊢
  by_cases h1:d.client < 0∨16≤d.client
  · rw [if_pos h1] at h;exact absurd h (by decide:¬ (3:Int)=0)
  rw [if_neg h1] at h ⊢
  by_cases h2:w.leader < 0
  · rw [if_pos h2] at h;exact absurd h (by decide:¬ (14:Int)=0)
  rw [if_neg h2] at h ⊢
  by_cases h3:(dG (w.s w.leader.toNat).peer).2≠0
  · rw [if_pos h3] at h;exact absurd h h3
  rw [if_neg h3] at h ⊢
  simp only at h ⊢
  generalize cF (w.s w.leader.toNat).tree (dG (w.s w.leader.toNat).peer).1 (mv w d)=p at h ⊢
  by_cases h4:p.2≠0
  · rw [if_pos h4] at h;exact absurd h h4
  rw [if_neg h4] at h ⊢
  generalize bW p.1 w.leader d.lost d.slow [0,1,2] w []=r at h ⊢
  by_cases h5:r.2.2≠0
  · rw [if_pos h5] at h;exact absurd h h5
  rw [if_neg h5] at h ⊢
  by_cases h6:r.2.1.length < 2
  · rw [if_pos h6] at h;exact absurd h (by decide:¬ (16:Int)=0)
  rw [if_neg h6] at h ⊢
  obtain ⟨D,e1,e2⟩:=D3 h
  exact ⟨D,_,e1,e2⟩
theorem Jw {w:AWorld} {d:ADeed} (hk:d.kind=1) (h:(doW w d).2.code=0):∃ D x,(doW w d).1.done=D++[x]∧x.zxid=(doW w d).2.zxid:=by
  unfold doW at h ⊢
  by_cases h1:300≤w.deeds
  · rw [if_pos h1] at h;exact absurd h (by decide:¬ (6:Int)=0)
  rw [if_neg h1] at h ⊢
  unfold mc at h ⊢
  rw [if_pos hk] at h ⊢
  exact zh h
theorem xU (l log:List ATxn) (h:l.Sublist log) (hb:log.length≤100000):ab Tryz.prog [] 29 [.d (.sl 7 (l.map ATxn.row)),.d (.sl 7 (log.map ATxn.row))] (ret (B true)):=by
  have hl:=h.length_le
  have ha:=LJ h
  refine zJ Tryz.func29 Tryz.ntmps29 Tryz.results29 ?_;simp only [go_sem]
  (refine zW qw zn trivial (z1 ?_)<;>(repeat with_reducible intro hc))
  refine AWP.loopS (ι:=Nat) (fun i=>i≤log.length) (fun i=>log.length - i) [0,1] (fun i=>[(6,I i),(5,I (wN l log i))]) 0 ?_ (by simp (disch:=omega) only [go_sem,aa,wN]) ?_
  · omega
  intro i hi
  simp only [go_sem]
  have hw:=GD l log i
  by_cases hg:i < log.length∧wN l log i < l.length
  · obtain ⟨g1,g2⟩:=hg
    have hr1:∀ z,List.getD (log.map ATxn.row) i z=(log.getD i default).row:=fun z=>ATxn.rgetD log i z g1
    have hr2:∀ z,List.getD (l.map ATxn.row) (wN l log i) z=(l.getD (wN l log i) default).row:=fun z=>ATxn.rgetD l _ z g2
    by_cases he:log.getD i default=l.getD (wN l log i) default
    · have hw1:wN l log (i+1)=wN l log i+1:=by rw [wN,if_pos ⟨g2,he⟩]
      (refine zW qw zn (zx @hr1 (zx @hr2 @he)) (z1 ?_)<;>(repeat with_reducible intro hc))
      all_goals first | (exfalso;omega) | contradiction | skip
      all_goals refine ⟨i+1,by omega,by omega,?_⟩
      all_goals exact zSm @hw1
    · have hw1:wN l log (i+1)=wN l log i:=by rw [wN,if_neg (fun h=>he h.2)]
      (refine zW qw zn (zx @hr1 @hr2) (z2 ?_ ?_)<;>(repeat with_reducible intro hc))
      all_goals first | (exfalso;omega) | contradiction | skip
      all_goals refine ⟨i+1,by omega,by omega,?_⟩
      all_goals exact zSm @hw1
  · have e:wN l log i=l.length:=by
      by_cases g1:i < log.length
      · omega
      · rw [show i=log.length by omega,ha]
    (refine zW qw zn @e (z1 ?_)<;>(repeat with_reducible intro hc))
    all_goals first | (exfalso;omega) | contradiction | skip
    all_goals exact zEe @e
set_option maxHeartbeats 16000000 in
theorem HK (w:AWorld) (d:ADeed) (r:AReply) (n:Nat) (ha:bH w n) (hn:n < 1000) (hr:d.kind=1→r.code=0→∃ D x,w.done=D++[x]∧x.zxid=r.zxid):ab Tryz.prog (inW w) 39 [.ptr 0 0,d.av,r.av] (cu (B true) (inW w)):=by
  have hfew:=ha.few
  obtain ⟨p1,p2⟩:List.Pairwise (fun a b:ATxn=>a.zxid < b.zxid) w.done∧(0≤w.leader→w.leader < 3∧w.done.Sublist (w.s w.leader.toNat).peer.log):=by
    obtain ⟨⟨g,es,K,h1⟩,_,_⟩:=ha
    exact h1.order
  have hak:=vn w (by omega)
  have hld:=lO w
  unfold inW at hak hld ⊢
  refine zJ Tryz.func39 Tryz.ntmps39 Tryz.results39 ?_;simp only [go_sem]
  (refine zW qw (z1 (ac [0,1] hak)) trivial (z1 ?_)<;>(repeat with_reducible intro hc))
  all_goals first | (exfalso;omega) | contradiction | skip
  refine AWP.loopB (ι:=Nat) (fun v=>1≤v∧v≤w.done.length+1) (fun v=>w.done.length+1 - v) [0,4,5,7] (fun v=>[(8,I v)]) (fun v=>[.cells (wC (cw w) 1),.rows 7 (w.done.map ATxn.row),.cells [I d.kind,I d.client,I d.server,I d.request.op,I d.request.session,S d.request.path,S d.request.data,I d.request.version,I d.request.flags,I d.lost,I d.slow,I d.keep,B d.watch],.cells [I r.code,I r.zxid,S r.path,S r.data,I r.stat.czxid,I r.stat.mzxid,I r.stat.pzxid,I r.stat.version,I r.stat.cversion,I r.stat.owner,I r.stat.kids,.d (.sl 3 (r.notes.map ANote.row))]]) 1 ?_ ?_ ?_
  · omega
  · simp only [go_sem];exact zFr [0,1,2,3] trivial
  intro v hv
  simp only [go_sem]
  by_cases hk:v < w.done.length
  · have hlt:(w.done.getD (v - 1) default).zxid < (w.done.getD v default).zxid:=by
      have:=List.pairwise_iff_getElem.1 p1 (v - 1) v (by omega) hk (by omega)
      rwa [List.getD_eq_getElem?_getD,List.getD_eq_getElem?_getD,List.getElem?_eq_getElem hk,List.getElem?_eq_getElem (show v - 1 < w.done.length by omega)]
    have hr1:∀ z,List.getD (w.done.map ATxn.row) v z=(w.done.getD v default).row:=fun z=>ATxn.rgetD w.done v z hk
    have hr2:∀ z,List.getD (w.done.map ATxn.row) (v - 1) z=(w.done.getD (v - 1) default).row:=fun z=>ATxn.rgetD w.done (v - 1) z (by omega)
    have hv1:((v:Int) - 1).toNat=v - 1:=by omega
    have hv2:(v:Int) - 1=((v - 1:Nat):Int):=by omega
    (refine zW qw zn (zx @hr1 (zx @hr2 @hv2)) (z1 ?_)<;>(repeat with_reducible intro hc))
    all_goals first | (exfalso;omega) | contradiction | skip
    all_goals refine ⟨v+1,by omega,by omega,?_⟩
    all_goals exact zFr [0,1,2,3] trivial
  · by_cases hl0:w.leader < 0
    · by_cases hq:d.kind=1∧r.code=0
      · obtain ⟨q1,q2⟩:=hq
        obtain ⟨D,x,e1,e2⟩:=hr q1 q2
        have hlen:w.done.length≠0:=by rw [e1];simp
        have hlv:((w.done.length:Int) - 1)=((w.done.length - 1:Nat):Int):=by omega
        have hrl:∀ z,List.getD (w.done.map ATxn.row) (w.done.length - 1) z=x.row:=fun z=>by
          rw [ATxn.rgetD w.done _ z (by omega)]
          rw [e1,List.length_append,List.length_singleton,Nat.add_sub_cancel,List.getD_eq_getElem?_getD,List.getElem?_append_right (Nat.le_refl _),Nat.sub_self];rfl
        (refine zW qw (z1 (ac [0,1] hld)) (zx @q1 (zx @q2 (zx @hlv (zx @hrl (zx @e2 (zx @hlen @hl0)))))) (z1 ?_)<;>(repeat with_reducible intro hc))
        all_goals first | (exfalso;omega) | contradiction | skip
        all_goals (refine zO ?_ ?_;(focus ((try simp (disch:=omega) only [go_sem,aa])<;>fail));simp (disch:=omega) only [go_sem,aa];refine ag.of_simp ?_ (ag.same ⟨rfl,rfl⟩);refine zV [0,1] rfl rfl rfl rfl ?_ ?_<;>simp (disch:=omega) only [go_sem,aa,true_or,or_true])
      · (refine zW qw (z1 (ac [0,1] hld)) @hl0 (z1 ?_)<;>(repeat with_reducible intro hc))
        all_goals first | (exfalso;omega) | contradiction | (exfalso;simp_all;done) | skip
        all_goals (refine zO ?_ ?_;(focus ((try simp (disch:=omega) only [go_sem,aa])<;>fail));simp (disch:=omega) only [go_sem,aa];refine ag.of_simp ?_ (ag.same ⟨rfl,rfl⟩);refine zV [0,1] rfl rfl rfl rfl ?_ ?_<;>simp (disch:=omega) only [go_sem,aa,true_or,or_true])
    · obtain ⟨p3,p4⟩:=p2 (by omega)
      have hlt:w.leader.toNat < 3:=by omega
      have hs:=(ha.server hn hlt).1
      have hsv:=e8 w w.leader.toNat hlt hs w.leader (by omega)
      unfold inW at hsv
      have hwi:=xU w.done (w.s w.leader.toNat).peer.log p4 (by have:=ha.log hlt;omega)
      generalize w.s w.leader.toNat=s at *
      by_cases hq:d.kind=1∧r.code=0
      · obtain ⟨q1,q2⟩:=hq
        obtain ⟨D,x,e1,e2⟩:=hr q1 q2
        have hlen:w.done.length≠0:=by rw [e1];simp
        have hlv:((w.done.length:Int) - 1)=((w.done.length - 1:Nat):Int):=by omega
        have hrl:∀ z,List.getD (w.done.map ATxn.row) (w.done.length - 1) z=x.row:=fun z=>by
          rw [ATxn.rgetD w.done _ z (by omega)]
          rw [e1,List.length_append,List.length_singleton,Nat.add_sub_cancel,List.getD_eq_getElem?_getD,List.getElem?_append_right (Nat.le_refl _),Nat.sub_self];rfl
        (refine zW qw (z3 (ac [0,1] hld) (ac [0,1] hsv) hwi) (zx @q1 (zx @q2 (zx @hlv (zx @hrl (zx @e2 @hlen))))) (z1 ?_)<;>(repeat with_reducible intro hc))
        all_goals first | (exfalso;omega) | contradiction | skip
        all_goals (refine zO ?_ ?_;(focus ((try simp (disch:=omega) only [go_sem,aa])<;>fail));simp (disch:=omega) only [go_sem,aa];refine ag.of_simp ?_ (ag.same ⟨rfl,rfl⟩);refine zV [0,1] rfl rfl rfl rfl ?_ ?_<;>simp (disch:=omega) only [go_sem,aa,true_or,or_true])
      · (refine zW qw (z3 (ac [0,1] hld) (ac [0,1] hsv) hwi) trivial (z1 ?_)<;>(repeat with_reducible intro hc))
        all_goals first | (exfalso;omega) | contradiction | (exfalso;simp_all;done) | skip
        all_goals (refine zO ?_ ?_;(focus ((try simp (disch:=omega) only [go_sem,aa])<;>fail));simp (disch:=omega) only [go_sem,aa];refine ag.of_simp ?_ (ag.same ⟨rfl,rfl⟩);refine zV [0,1] rfl rfl rfl rfl ?_ ?_<;>simp (disch:=omega) only [go_sem,aa,true_or,or_true])
theorem yv:BZ 39:=fun w d n ha hn _ _ _ _=>HK _ _ _ (n+1) (ha.does (by omega) d) (by omega) (fun h1 h2=>Jw h1 h2)
set_option maxHeartbeats 16000000 in
theorem AK (l:List ADeed) (hl:∀ d,d∈l→d.wf∧d.request.path.length≤1048576) (hll:l.length≤1048576):ab Tryz.prog [] 8 [.d (.sl 13 (l.map ADeed.row))] (ret (B true)):=by
  have hp:=oV 39 yv l hl hll
  unfold inW at hp
  refine zJ Tryz.func8 Tryz.ntmps8 Tryz.results8 ?_;simp only [go_sem]
  (refine zW qw (z1 hp) trivial (z1 ?_)<;>(repeat with_reducible intro hc))
  all_goals first | (exfalso;omega) | contradiction | skip
  all_goals exact zEe trivial
theorem Ag (dss:List (List DV)) (h:eZ T 6 Tryz.f8.params.toList dss) (hs:∀ cs,cs∈dss→∀ c,c∈cs→SmallD 1048576 c):ab Tryz.prog [] 8 (fp T Tryz.f8.params.toList dss) (fun v _=>v=B true):=by
  rw [Tryz.params8] at h ⊢
  simp only [List.toList_toArray,eZ] at h
  obtain ⟨c0,d0,rfl,h0,rfl⟩:=h
  have s0:=hs c0 (by simp)
  obtain ⟨l,rfl,v_l,w_l⟩:=u5 (m:=5) (e:=30) (sz:=13) (by_:=120) (f:=ADeed.row) (wf:=ADeed.wf) (by simp only [pj,mK]) (by simp only [mQ,kK]) (by simp only [mQ,kK]) (fun r hr=>dW (m:=2) hr) h0
  have u_l:=s0
  simp only [List.toList_toArray,fp,tv,TI.agg_mk,pj,mK]
  exact (AK l (fun d hd=>⟨w_l d hd,((u_l (DV.sl 13 (l.map ADeed.row)) (by simp)).rows.2 _ (List.mem_map_of_mem hd) (DV.str d.request.path) (by simp [ADeed.row])).len⟩) (by simpa using (u_l (DV.sl 13 (l.map ADeed.row)) (by simp)).rows.1)).mono fun _ _ h=>h.1
end Go.Proofs.YtjcooccnfkfjhaaGreatDoor
