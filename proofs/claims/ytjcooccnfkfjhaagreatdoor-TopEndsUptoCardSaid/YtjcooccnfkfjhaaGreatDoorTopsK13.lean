/- A part of what Tops leans on: texts of this claim, one behind the other. No condition. -/
import Derived.Test.YtjcooccnfkfjhaaGreatDoorTopsK12
namespace Go.Proofs.YtjcooccnfkfjhaaGreatDoor
set_option linter.unusedVariables false
set_option linter.unusedSimpArgs false
open Go Go.RowKit
theorem Gt:Pls [Plan.takes [0,1,2,3,4,5,6,7,8,9] .done,Plan.takes [0,1,2,4] (.forks 3 (.fork 5 (.fork 6 (Plan.takes [7,8,9,10,11,12] .done) 10 (Plan.takes [6,7,8,9,11,12] .done)) 10 (Plan.takes [5,6,7,8,9,11,12] .done)) 5 (.fork 3 (.fork 6 (Plan.takes [7,8,9,10,11,12] .done) 10 (Plan.takes [6,7,8,9,11,12] .done)) 10 (Plan.takes [3,6,7,8,9,11,12] .done)) 10 (Plan.takes [3,5,6,7,8,9,11,12] .done)),Plan.takes [0,1,2,3,4,5,6,7,8,9,11,17,18] (.fork 10 (Plan.takes [12,13,14,15,16,19,20] .done) 12 (Plan.takes [10,13,14,15,16,19,20] .done)),Plan.takes [0,1,2,3,4,7] (.forks 5 (.fork 6 (.fork 8 (Plan.takes [9,10,11,12,13,14] .done) 12 (Plan.takes [8,9,10,11,13,14] .done)) 12 (Plan.takes [6,8,9,10,11,13,14] .done)) 6 (.fork 5 (.fork 8 (Plan.takes [9,10,11,12,13,14] .done) 12 (Plan.takes [8,9,10,11,13,14] .done)) 12 (Plan.takes [5,8,9,10,11,13,14] .done)) 12 (Plan.takes [5,6,8,9,10,11,13,14] .done)),Plan.takes [0,1,2,3,4,5,6] .done]:=pls _
attribute [go_sem] Tryz.ntmps107 Tryz.results107 Tryz.ntmps108 Tryz.results108
set_option maxRecDepth 100000
theorem JA (a:Int):bits .and .i64 a 1=a % 2:=by
  show IntKind.i64.wrap ((BitVec.ofInt 64 a &&& BitVec.ofInt 64 ((1:Nat):Int)).toNat:Int)=_
  rw [BitVec.toNat_and,jo 1 (by decide),show (1:Nat)=2 ^ 1 - 1 from rfl,Nat.and_two_pow_sub_one_eq_mod,BitVec.toNat_ofInt,IntKind.wrap_i64]
  omega
theorem IE (n:Int) (i:Nat):decide (bits .and .i64 (n / 2 ^ i) 1=0)=!tw n i:=by
  rw [JA];unfold tw
  rw [Bool.eq_iff_iff,Bool.not_eq_true',decide_eq_true_eq,decide_eq_false_iff_not];omega
theorem Cs {n:Nat} (h:n < 1000):IntKind.u64.wrap (n:Int)=(n:Int):=by rw [IntKind.wrap_u64];omega
theorem LY (v:CW) (i:Nat) (b:Bool) (h:v.f i=b):v.setF i b=v:=by
  unfold CW.setF
  have:(fun j=>if j=i then b else v.f j)=v.f:=funext fun j=>by
    by_cases e:j=i
    · subst e;rw [if_pos rfl,h]
    · rw [if_neg e]
  rw [this]
theorem ut (z:Int):okI (mi z).1:=by
  unfold mi
  split
  · rename_i h
    unfold bU at h
    split
    · exact ⟨by show (-9223372036854775808:Int)≤0;decide,by show (0:Int)≤9223372036854775807;decide⟩
    · constructor
      · show (-9223372036854775808:Int)≤_;simp only;omega
      · show _≤(9223372036854775807:Int);simp only;omega
  · exact ⟨by show (-9223372036854775808:Int)≤0;decide,by show (0:Int)≤9223372036854775807;decide⟩
theorem CM (p:APeer):okI (dC p).1:=by
  unfold dC
  split
  · split
    · exact ⟨by show (-9223372036854775808:Int)≤0;decide,by show (0:Int)≤9223372036854775807;decide⟩
    · exact ut _
  · exact ut _
structure TgInv (w:AWorld) (x:ATxn) (lost slow:Int) (F:AWorld×List Nat×Int) (v:Nat×AWorld×List Nat):Prop where
  k:v.1≤3
  f:bT x w.leader lost slow (([0,1,2]:List Nat).drop v.1) v.2.1 v.2.2=F
  l:WL v.2.1
  s:∀ i,v.1≤i→i < 3→v.2.1.s i=w.s i
  fl:∀ i,v.1≤i→i < 3→v.2.1.f i=w.f i
  ld:v.2.1.leader=w.leader
  d:v.2.1.done=w.done
  c:v.2.1.cl=w.cl
  sg:∀ i,i < 3→SG (v.2.1.s i)
  h:v.2.2.length≤v.1∧∀ i,i∈v.2.2→i < 3
section
variable {w:AWorld} {x:ATxn} {lost slow:Int} {F:AWorld×List Nat×Int} {v:Nat×AWorld×List Nat}
theorem TgInv.skip (h:TgInv w x lost slow F v) (hk:v.1 < 3) (hf:v.2.1.f v.1=false):TgInv w x lost slow F (v.1+1,v.2):=by
  obtain ⟨h1,h2,h3,h4,h5,h6,h7,h8,h9,h10,h11⟩:=h
  rw [pE hk,bT,if_pos hf] at h2
  exact ⟨hk,h2,h3,fun i a b=>h4 i (by simp only at a;omega) b,fun i a b=>h5 i (by simp only at a;omega) b,h6,h7,h8,h9,by simp only;omega,h11⟩
theorem TgInv.gone (h:TgInv w x lost slow F v) (hk:v.1 < 3) (hf:¬ v.2.1.f v.1=false) (hb:¬ w.leader=(v.1:Int)∧tw lost v.1=true):TgInv w x lost slow F (v.1+1,v.2.1.setF v.1 false,v.2.2):=by
  obtain ⟨h1,h2,⟨e1,e2,e3⟩,h4,h5,h6,h7,h8,h9,h10,h11⟩:=h
  rw [pE hk,bT,if_neg hf,if_pos hb] at h2
  refine ⟨hk,h2,⟨e1,by show (v.2.1.fl.set _ _).length=3;rw [List.length_set];exact e2,e3⟩,fun i a b=>h4 i (by simp only at a;omega) b,fun i a b=>?_,h6,h7,h8,h9,by simp only;omega,h11⟩
  simp only at a
  show (v.2.1.setF v.1 false).f i=w.f i
  rw [pi (by omega),if_neg (by omega)]
  exact h5 i (by omega) b
theorem TgInv.stop (h:TgInv w x lost slow F v) (hk:v.1 < 3) (hf:¬ v.2.1.f v.1=false) (hb:¬ (¬ w.leader=(v.1:Int)∧tw lost v.1=true)) {sf:Bool} (hsf:(decide (w.leader=(v.1:Int)) || !tw slow v.1)=sf) (ht:(bi (w.s v.1) x sf).2≠0):F=(v.2.1,v.2.2,(bi (w.s v.1) x sf).2):=by
  have h2:=h.f
  have hs:=h.s v.1 (Nat.le_refl _) hk
  rw [pE hk,bT,hs,if_neg hf,if_neg hb,hsf,if_pos ht] at h2
  exact h2.symm
theorem TgInv.next (h:TgInv w x lost slow F v) (hk:v.1 < 3) (hf:¬ v.2.1.f v.1=false) (hb:¬ (¬ w.leader=(v.1:Int)∧tw lost v.1=true)) {sf:Bool} (hsf:(decide (w.leader=(v.1:Int)) || !tw slow v.1)=sf) (ht:¬ (bi (w.s v.1) x sf).2≠0)
    (hx:x.wf) (hp:x.path.length≤1048576) (hl:(w.s v.1).peer.log.length≤1048576):TgInv w x lost slow F (v.1+1,v.2.1.setS v.1 (bi (w.s v.1) x sf).1,if sf=true then v.2.2++[v.1] else v.2.2):=by
  obtain ⟨h1,h2,⟨e1,e2,e3⟩,h4,h5,h6,h7,h8,h9,h10,h11⟩:=h
  have hs:=h4 v.1 (Nat.le_refl _) hk
  rw [pE hk,bT,hs,if_neg hf,if_neg hb,hsf,if_neg ht] at h2
  have hg:=h9 v.1 hk
  rw [hs] at hg
  have hg2:=KU (safe:=sf) hg hx hp hl (Classical.not_not.1 ht)
  refine ⟨hk,h2,⟨by show (v.2.1.sv.set _ _).length=3;rw [List.length_set];exact e1,e2,e3⟩,fun i a b=>?_,fun i a b=>h5 i (by simp only at a;omega) b,h6,h7,h8,fun i hi=>?_,?_,?_⟩
  · simp only at a
    show (v.2.1.setS v.1 _).s i=w.s i
    rw [dN (by omega),if_neg (by omega)]
    exact h4 i (by omega) b
  · show SG ((v.2.1.setS v.1 _).s i)
    rw [dN (by omega)]
    split
    · exact hg2
    · exact h9 i hi
  · simp only
    split
    · rw [List.length_append,List.length_singleton];omega
    · omega
  · simp only
    intro i hi
    split at hi
    · rcases List.mem_append.1 hi with hi | hi
      · exact h11 i hi
      · rw [List.mem_singleton.1 hi];exact hk
    · exact h11 i hi
theorem TgInv.end (h:TgInv w x lost slow F v) (hk:¬ v.1 < 3):F=(v.2.1,v.2.2,0):=by
  have h2:=h.f
  have hk3:v.1=3:=by have:=h.k;omega
  rw [hk3] at h2
  exact h2.symm
end
structure WrOk (w:AWorld):Prop where
  l:WL w
  s:∀ i,i < 3→SG (w.s i)
  n:∀ i,i < 3→(w.s i).peer.log.length≤100000
  c:∀ i,i < 16→(w.c i).cache.length≤100000∧aU ((w.c i).cache.map AEntry.path)
  cs:∀ i,i < 16→okI (w.c i).session
  d:w.done.length≤100000
  ld:w.leader < 3
  sn:∀ i,i < 16→0≤w.leader→(w.c i).seen≤(dC (w.s w.leader.toNat).peer).1∨(dC (w.s w.leader.toNat).peer).2≠0
set_option maxHeartbeats 16000000 in
theorem He (w:AWorld) (d:ADeed) (hw:WrOk w) (hdw:d.wf) (hdp:d.request.path.length≤1048576):ab Tryz.prog (inW w) 55 [.ptr 0 0,d.av] (cE (dg w d).1 (dg w d).2):=by
  obtain ⟨⟨e1,e2,e3⟩,hs,hn,hc16,hcz,hdn,hl3,hsn⟩:=hw
  obtain ⟨kind,client,server,rq,lost,slow,keep,watch⟩:=d
  obtain ⟨_,hcI,_,hrq,hlo,hsl,_,_⟩:=hdw
  simp only at hcI hrq hlo hsl hdp
  unfold dg
  simp only
  by_cases h1:client < 0∨16≤client
  · rw [if_pos h1]
    have hcb:(decide (client < 0) || decide (16≤client))=true:=by rcases h1 with h | h<;>simp [h]
    unfold inW cE
    refine zJ Tryz.func55 Tryz.ntmps55 Tryz.results55 ?_;simp only [go_sem]
    (refine zW qs zn @hcb (z1 ?_)<;>(repeat with_reducible intro hc))
    all_goals first | (exfalso;omega) | contradiction | (exfalso;simp_all;done) | skip
    all_goals (refine zO ?_ ?_;(focus ((try simp (disch:=omega) only [go_sem,aa])<;>fail));simp (disch:=omega) only [go_sem,aa];exact ag.worldV (r:=noR 3) (rfl) rfl rfl rfl)
  rw [if_neg h1]
  obtain ⟨cl,rfl⟩:∃ cl:Nat,client=(cl:Int):=⟨client.toNat,by omega⟩
  have hcl:cl < 16:=by omega
  have hcb:(decide ((cl:Int) < 0) || decide (16≤(cl:Int)))=false:=by rw [decide_eq_false (by omega),decide_eq_false (by omega)];rfl
  by_cases h2:w.leader < 0
  · rw [if_pos h2]
    have hlb:decide (w.leader < 0)=true:=decide_eq_true h2
    unfold inW cE
    refine zJ Tryz.func55 Tryz.ntmps55 Tryz.results55 ?_;simp only [go_sem]
    (refine zW qs zn (zx @hcb @hlb) (z1 ?_)<;>(repeat with_reducible intro hc))
    all_goals first | (exfalso;omega) | contradiction | (exfalso;simp_all;done) | skip
    all_goals (refine zO ?_ ?_;(focus ((try simp (disch:=omega) only [go_sem,aa])<;>fail));simp (disch:=omega) only [go_sem,aa];exact ag.worldV (r:=noR 14) (rfl) rfl rfl rfl)
  rw [if_neg h2]
  obtain ⟨li,hle⟩:∃ li:Nat,w.leader=(li:Int):=⟨w.leader.toNat,by omega⟩
  have hli:li < 3:=by omega
  have hgl:=hs li hli
  have hnx:=z7 (w.s li).peer hgl.gs.w.2.2.1.2.2.1.1
  have hnk:=CM (w.s li).peer
  have hsn2:=hsn cl hcl (by omega)
  have hlb:decide ((li:Int) < 0)=false:=decide_eq_false (by omega)
  unfold ma
  rw [hle] at hsn2 ⊢
  simp only [Int.toNat_natCast] at hsn2 ⊢
  generalize dC (w.s li).peer=q at hnx hnk hsn2 ⊢
  obtain ⟨z,ze⟩:=q
  simp only at hnx hnk hsn2 ⊢
  unfold inW cE
  refine zJ Tryz.func55 Tryz.ntmps55 Tryz.results55 ?_;simp only [go_sem]
  (refine zW qs zn (zx @hcb (zx @hle @hlb)) (z1 ?_)<;>(repeat with_reducible intro hc))
  all_goals first | (exfalso;omega) | contradiction | (exfalso;simp_all;done) | skip
  refine AWP.meetB [0,3,4] [(5,.ptr 4 0)] [.cells (wC (cw w) 1),.rows 7 (w.done.map ATxn.row),.cells [I kind,I (cl:Int),I server,I rq.op,I rq.session,S rq.path,S rq.data,I rq.version,I rq.flags,I lost,I slow,I keep,B watch],.cells [I 0,I 0,S [],S [],I 0,I 0,I 0,I 0,I 0,I 0,I 0,.d (.sc (.slice none 0 0))],.cells [I rq.op,I (w.c cl).session,S rq.path,S rq.data,I rq.version,I rq.flags]] ?_ ?_
  · (refine zW qw (z1 Gt) trivial (z1 ?_)<;>(repeat with_reducible intro hc))
    all_goals first | (exfalso;omega) | contradiction | (exfalso;simp_all;done) | skip
    all_goals exact zFr [0,1,2,3,4] trivial
  simp only [go_sem]
  (refine zW qs zn trivial (z1 ?_)<;>(repeat with_reducible intro hc))
  refine AWP.meetB [0,3,4,5] [(6,.ptr 0 (li*10))] [.cells (wC (cw w) 1),.rows 7 (w.done.map ATxn.row),.cells [I kind,I (cl:Int),I server,I rq.op,I rq.session,S rq.path,S rq.data,I rq.version,I rq.flags,I lost,I slow,I keep,B watch],.cells [I 0,I 0,S [],S [],I 0,I 0,I 0,I 0,I 0,I 0,I 0,.d (.sc (.slice none 0 0))],.cells [I rq.op,I (w.c cl).session,S rq.path,S rq.data,I rq.version,I rq.flags]] ?_ ?_
  · (refine zW qw zn @hle (z1 ?_)<;>(repeat with_reducible intro hc))
    all_goals first | (exfalso;omega) | contradiction | (exfalso;simp_all;done) | skip
    all_goals exact zFr [0,1,2,3,4] trivial
  simp only [go_sem]
  by_cases hz:ze=0
  case neg=>
    rw [if_pos hz]
    (refine zW qs (z1 hnx) trivial (z1 ?_)<;>(repeat with_reducible intro hc))
    all_goals first | (exfalso;omega) | contradiction | (exfalso;simp_all;done) | skip
    all_goals (refine zO ?_ ?_;(focus ((try simp (disch:=omega) only [go_sem,aa])<;>fail));simp (disch:=omega) only [go_sem,aa];exact ag.worldV (r:=noR ze) (rfl) rfl rfl rfl)
  subst hz
  rw [if_neg (fun h=>h rfl)]
  have hpr:=L8 (w.s li).tree z ⟨rq.op,(w.c cl).session,rq.path,rq.data,rq.version,rq.flags⟩ hgl.gs.t ⟨hrq.1,hcz cl hcl,hrq.2.2.1,hrq.2.2.2.1,hrq.2.2.2.2.1,hrq.2.2.2.2.2⟩ hdp hnk
  have hpk:=@B9 (w.s li).tree z ⟨rq.op,(w.c cl).session,rq.path,rq.data,rq.version,rq.flags⟩
  generalize cA (w.s li).tree z ⟨rq.op,(w.c cl).session,rq.path,rq.data,rq.version,rq.flags⟩=p at hpr hpk ⊢
  obtain ⟨x,pe⟩:=p
  simp only at hpr hpk ⊢
  (refine zW qs (z1 hnx) trivial (z1 ?_)<;>(repeat with_reducible intro hc))
  all_goals first | (exfalso;omega) | contradiction | (exfalso;simp_all;done) | skip
  refine AWP.meetB [0,3,4] [(8,I pe),(9,.ptr 5 0)] [.cells (wC (cw w) 1),.rows 7 (w.done.map ATxn.row),.cells [I kind,I (cl:Int),I server,I rq.op,I rq.session,S rq.path,S rq.data,I rq.version,I rq.flags,I lost,I slow,I keep,B watch],.cells [I 0,I 0,S [],S [],I 0,I 0,I 0,I 0,I 0,I 0,I 0,.d (.sc (.slice none 0 0))],.cells [I rq.op,I (w.c cl).session,S rq.path,S rq.data,I rq.version,I rq.flags],.cells [I x.zxid,I x.op,I x.session,S x.path,S x.data,I x.version,I x.owner]] ?_ ?_
  · (refine zW qw (z2 Gt hpr) trivial (zc ?_ (zc ?_ (zc ?_ (z4 ?_ ?_ ?_ ?_))))<;>(repeat with_reducible intro hc))
    all_goals first | (exfalso;omega) | contradiction | (exfalso;simp_all;done) | skip
    all_goals exact zFr [0,1,2,3,4,5] trivial
  simp only [go_sem]
  by_cases hz:pe=0
  case neg=>
    rw [if_pos hz]
    (refine zW qs zn trivial (z1 ?_)<;>(repeat with_reducible intro hc))
    all_goals first | (exfalso;omega) | contradiction | (exfalso;simp_all;done) | skip
    all_goals (refine zO ?_ ?_;(focus ((try simp (disch:=omega) only [go_sem,aa])<;>fail));simp (disch:=omega) only [go_sem,aa];exact ag.worldV (r:=noR pe) (rfl) rfl rfl rfl)
  subst hz
  rw [if_neg (fun h=>h rfl)]
  obtain ⟨hxz,hxa⟩:=hpk rfl
  obtain ⟨hxw,hxp⟩:=G5 (BD hxa).1
  have hsx:(w.c cl).seen≤x.zxid:=by rcases hsn2 with h | h<;>omega
  clear hpk hpr hnx hsn hsn2
  rw [←hle]
  generalize hF:bT x w.leader lost slow [0,1,2] w []=F
  (refine zW qs zn trivial (z1 ?_)<;>(repeat with_reducible intro hc))
  all_goals first | (exfalso;omega) | contradiction | (exfalso;simp_all;done) | skip
  refine AWP.weaken (aF.nilOwn 10 1 rfl) ?_
  simp only [go_sem]
  refine AWP.loopB (ι:=Nat×AWorld×List Nat) (fun v=>TgInv w x lost slow F v) (fun v=>3 - v.1) [0,3,4,9] (fun v=>[(75,I v.1),(10,.osl 6 1 0 v.2.2.length)]) (fun v=>[.cells (wC (cw v.2.1) 1),.rows 7 (w.done.map ATxn.row),.cells [I kind,I (cl:Int),I server,I rq.op,I rq.session,S rq.path,S rq.data,I rq.version,I rq.flags,I lost,I slow,I keep,B watch],.cells [I 0,I 0,S [],S [],I 0,I 0,I 0,I 0,I 0,I 0,I 0,.d (.sc (.slice none 0 0))],.cells [I rq.op,I (w.c cl).session,S rq.path,S rq.data,I rq.version,I rq.flags],.cells [I x.zxid,I x.op,I x.session,S x.path,S x.data,I x.version,I x.owner],.rows 1 (v.2.2.map oo)]) (0,w,[]) ?_ ?_ ?_
  · exact ⟨Nat.zero_le _,hF,⟨e1,e2,e3⟩,fun i _ _=>rfl,fun i _ _=>rfl,rfl,rfl,rfl,hs,Nat.le_refl _,fun i h=>by cases h⟩
  · simp only [go_sem];exact zFr [0,1,2,3,4,5,6] trivial
  intro v hv
  simp only [go_sem]
  have hvk:=hv.k
  have hvld:=hv.ld
  obtain ⟨hh1,hh2⟩:=hv.h
  by_cases hk4:v.1 < 3
  · have hs0:=hv.s v.1 (Nat.le_refl _) hk4
    by_cases hf:v.2.1.f v.1=false
    · have hsk:=hv.skip hk4 hf
      (refine zW qs zn @hf (z1 ?_)<;>(repeat with_reducible intro hc))
      all_goals first | (exfalso;omega) | contradiction | (exfalso;simp_all;done) | skip
      refine ⟨(v.1+1,v.2),hsk,by simp only;omega,?_⟩
      exact zFr [0,1,2,3,4,5,6] trivial
    have hft:v.2.1.f v.1=true:=by simpa using hf
    have hbe:=IE lost v.1
    have hse:=IE slow v.1
    have hwu:=Cs (n:=v.1) (by omega)
    by_cases hb:¬ w.leader=(v.1:Int)∧tw lost v.1=true
    · have hls:=hv.gone hk4 hf hb
      have k1:=cwF1 hv.l.fl hk4
      have hlf:decide ((v.1:Int)=w.leader)=false:=decide_eq_false (fun h=>hb.1 h.symm)
      (refine zW qs zn @hft (z1 ?_)<;>(repeat with_reducible intro hc))
      all_goals first | (exfalso;omega) | contradiction | (exfalso;simp_all;done) | skip
      refine AWP.meetB [0,3,4,9,10,11,75] [] [.cells (wC (cw (v.2.1.setF v.1 false)) 1),.rows 7 (w.done.map ATxn.row),.cells [I kind,I (cl:Int),I server,I rq.op,I rq.session,S rq.path,S rq.data,I rq.version,I rq.flags,I lost,I slow,I keep,B watch],.cells [I 0,I 0,S [],S [],I 0,I 0,I 0,I 0,I 0,I 0,I 0,.d (.sc (.slice none 0 0))],.cells [I rq.op,I (w.c cl).session,S rq.path,S rq.data,I rq.version,I rq.flags],.cells [I x.zxid,I x.op,I x.session,S x.path,S x.data,I x.version,I x.owner],.rows 1 (v.2.2.map oo)] ?_ ?_
      · (refine zW qw (z1 Gt) (zx @hvld (zx @hlf (zx @hwu (zx @hbe @hb.2)))) (z2 ?_ ?_)<;>(repeat with_reducible intro hc))
        all_goals first | (exfalso;omega) | contradiction | (exfalso;simp_all;done) | skip
        all_goals exact zFr [0,1,2,3,4,5,6] @k1
      simp only [go_sem]
      have hff:(v.2.1.setF v.1 false).f v.1=false:=by rw [pi (by have:=hv.l.fl;omega),if_pos rfl]
      (refine zW qs zn @hff (z1 ?_)<;>(repeat with_reducible intro hc))
      all_goals first | (exfalso;omega) | contradiction | (exfalso;simp_all;done) | skip
      refine ⟨(v.1+1,v.2.1.setF v.1 false,v.2.2),hls,by simp only;omega,?_⟩
      exact zFr [0,1,2,3,4,5,6] trivial
    have hgo:(bif decide ((v.1:Int)=w.leader) then true else !tw lost v.1)=true:=by
      by_cases e:(v.1:Int)=w.leader
      · rw [decide_eq_true e];rfl
      · rw [decide_eq_false e]
        have:tw lost v.1=false:=by
          by_cases hq:tw lost v.1=true
          · exact absurd ⟨fun h=>e h.symm,hq⟩ hb
          · simpa using hq
        rw [this];rfl
    have k1:=LY (cw v.2.1) v.1 true hft
    generalize hsf:(decide (w.leader=(v.1:Int)) || !tw slow v.1)=sf
    have hsf2:(bif decide ((v.1:Int)=w.leader) then true else !tw slow v.1)=sf:=by
      rw [←hsf,show decide ((v.1:Int)=w.leader)=decide (w.leader=(v.1:Int)) from decide_eq_decide.2 ⟨Eq.symm,Eq.symm⟩]
      cases decide (w.leader=(v.1:Int))<;>rfl
    have hgk:=hs v.1 hk4
    have hnk4:=hn v.1 hk4
    have htk:=Af (w.s v.1) x sf hgk.gs.w hxw (by omega)
    have hst:=hv.stop hk4 hf hb hsf
    have hnx:=fun a=>hv.next hk4 hf hb hsf a hxw (by omega) (by omega)
    (refine zW qs zn @hft (z1 ?_)<;>(repeat with_reducible intro hc))
    all_goals first | (exfalso;omega) | contradiction | (exfalso;simp_all;done) | skip
    refine AWP.meetB [0,3,4,9,10,11,75] [] [.cells (wC (cw v.2.1) 1),.rows 7 (w.done.map ATxn.row),.cells [I kind,I (cl:Int),I server,I rq.op,I rq.session,S rq.path,S rq.data,I rq.version,I rq.flags,I lost,I slow,I keep,B watch],.cells [I 0,I 0,S [],S [],I 0,I 0,I 0,I 0,I 0,I 0,I 0,.d (.sc (.slice none 0 0))],.cells [I rq.op,I (w.c cl).session,S rq.path,S rq.data,I rq.version,I rq.flags],.cells [I x.zxid,I x.op,I x.session,S x.path,S x.data,I x.version,I x.owner],.rows 1 (v.2.2.map oo)] ?_ ?_
    · cases hdb:decide ((v.1:Int)=w.leader)
      · have hbl:tw lost v.1=false:=by
          rw [hdb] at hgo
          simpa using hgo
        (refine zW qw (z1 Gt) (zx @hvld (zx @hwu (zx @hbe (zx @hdb @hbl)))) (z2 ?_ ?_)<;>(repeat with_reducible intro hc))
        all_goals first | (exfalso;omega) | skip
        all_goals exact zFr [0,1,2,3,4,5,6] @k1
      · (refine zW qw (z1 Gt) (zx @hvld (zx @hwu (zx @hbe @hdb))) (z2 ?_ ?_)<;>(repeat with_reducible intro hc))
        all_goals first | (exfalso;omega) | skip
        all_goals exact zFr [0,1,2,3,4,5,6] @k1
    simp only [go_sem]
    generalize bi (w.s v.1) x sf=tk at htk hst hnx
    obtain ⟨t1,te⟩:=tk
    simp only at htk hst hnx
    cases hdb:decide ((v.1:Int)=w.leader)
    all_goals (
      rw [hdb] at hsf2
      simp only [cond_true,cond_false] at hsf2
      (repeat' first
    | (with_reducible refine AR.f ?_)
    | refine ap (by decide) ?_
    | (with_reducible refine AWP.cond rfl ?_ ?_<;>intro hc<;>(try simp only [hcs,beq_iff_eq,ge_iff_le,gt_iff_lt] at hc))
    | ((first | ((first | (with_reducible first | refine zR ?_));intro K hK) | ((first | (with_reducible refine aunder_i ?_ ?_<;>intro hg) | with_reducible intro hg)<;>(first | (exfalso;simp at hg;done) | (have hg':=hg;(try simp only [hcs,beq_iff_eq,ge_iff_le,gt_iff_lt] at hg');(try simp only [hg])))))<;>(try simp (disch:=omega) only [go_sem,aa,hft,hvld,hwu,hse,hdb])<;>(repeat' with_reducible refine And.intro ?_ ?_)<;>(try (with_reducible refine hK _ ?_;clear hK K)))
    | omega)
      all_goals first | (exfalso;omega) | contradiction | (exfalso;simp_all;done) | skip
      refine AWP.meetB [0,3,4,9,10,11,12,75] [(13,.ptr 7 0),(14,I te)] [.cells (wC (cw v.2.1) 1),.rows 7 (w.done.map ATxn.row),.cells [I kind,I (cl:Int),I server,I rq.op,I rq.session,S rq.path,S rq.data,I rq.version,I rq.flags,I lost,I slow,I keep,B watch],.cells [I 0,I 0,S [],S [],I 0,I 0,I 0,I 0,I 0,I 0,I 0,.d (.sc (.slice none 0 0))],.cells [I rq.op,I (w.c cl).session,S rq.path,S rq.data,I rq.version,I rq.flags],.cells [I x.zxid,I x.op,I x.session,S x.path,S x.data,I x.version,I x.owner],.rows 1 (v.2.2.map oo),.cells [B t1.up,.d (.sl 3 (t1.disk.files.map AFile.row)),I t1.peer.id,I t1.peer.epoch,.d (.sl 7 (t1.peer.log.map ATxn.row)),I t1.peer.done,I t1.tree.zxid,.d (.sl 9 (t1.tree.nodes.map ANode.row)),.d (.sl 1 (t1.tree.sessions.map cW)),.d (.sl 3 (t1.watches.map AWatch.row))]] ?_ ?_
      · (repeat' first
      | (with_reducible refine AR.f ?_)
      | refine ap (by decide) ?_
      | (with_reducible refine AWP.cond rfl ?_ ?_<;>intro hc<;>(try simp only [hcs,beq_iff_eq,ge_iff_le,gt_iff_lt] at hc))
      | ((first | ((first | refine zP ((Plan.takes [0,1,2,3,4,5,6,7,8,9] .done)) (by decide +kernel) ?_ | refine zP ((Plan.takes [0,1,2,4] (.forks 3 (.fork 5 (.fork 6 (Plan.takes [7,8,9,10,11,12] .done) 10 (Plan.takes [6,7,8,9,11,12] .done)) 10 (Plan.takes [5,6,7,8,9,11,12] .done)) 5 (.fork 3 (.fork 6 (Plan.takes [7,8,9,10,11,12] .done) 10 (Plan.takes [6,7,8,9,11,12] .done)) 10 (Plan.takes [3,6,7,8,9,11,12] .done)) 10 (Plan.takes [3,5,6,7,8,9,11,12] .done)))) (by decide +kernel) ?_ | refine zP ((Plan.takes [0,1,2,3,4,5,6,7,8,9,11,17,18] (.fork 10 (Plan.takes [12,13,14,15,16,19,20] .done) 12 (Plan.takes [10,13,14,15,16,19,20] .done)))) (by decide +kernel) ?_ | refine zP ((Plan.takes [0,1,2,3,4,7] (.forks 5 (.fork 6 (.fork 8 (Plan.takes [9,10,11,12,13,14] .done) 12 (Plan.takes [8,9,10,11,13,14] .done)) 12 (Plan.takes [6,8,9,10,11,13,14] .done)) 6 (.fork 5 (.fork 8 (Plan.takes [9,10,11,12,13,14] .done) 12 (Plan.takes [8,9,10,11,13,14] .done)) 12 (Plan.takes [5,8,9,10,11,13,14] .done)) 12 (Plan.takes [5,6,8,9,10,11,13,14] .done)))) (by decide +kernel) ?_ | refine zP ((Plan.takes [0,1,2,3,4,5,6] .done)) (by decide +kernel) ?_ | (with_reducible first | refine zR ?_ | refine zQ (by decide +kernel) ?_ | refine zD (by decide +kernel) ?_ | refine zE (by decide +kernel) ?_ | refine zG (by decide +kernel) ?_));intro K hK) | ((first | refine zA htk ?_ ?_ ?_ ?_ ?_);(focus exact rfl);(focus exact rfl);iterate 2 (focus ((try simp (disch:=omega) only [go_sem,aa,hs0])<;>(try omega)<;>fail))) | ((first | refine zN htk rfl ?_ ?_ | refine zX htk rfl ?_ ?_ | refine zY htk ?_ ?_);(focus ((try simp (disch:=omega) only [go_sem,aa,hs0])<;>(try omega)<;>fail))) | ((first | (with_reducible refine aunder_i ?_ ?_<;>intro hg) | with_reducible intro hg)<;>(first | (exfalso;simp at hg;done) | (have hg':=hg;(try simp only [hcs,beq_iff_eq,ge_iff_le,gt_iff_lt] at hg');(try simp only [hg])))))<;>(try simp (disch:=omega) only [go_sem,aa,hs0])<;>(repeat' with_reducible refine And.intro ?_ ?_)<;>(try (with_reducible refine hK _ ?_;clear hK K)))
      | omega)
        all_goals first | (exfalso;omega) | skip
        all_goals (refine zV [0,1,2,3,4,5,6,7] rfl rfl rfl rfl ?_ ?_<;>simp (disch:=omega) only [go_sem,aa,Int.natCast_add]<;>(try rfl))
        all_goals exact congrArg (fun b=>AV.d (DV.bool b)) hsf2.symm
      simp only [go_sem]
      by_cases hte:te=0
      case neg=>
        have hF2:=hst hte
        subst hF2
        simp only [ne_eq,hte,not_false_eq_true,if_true]
        (repeat' first
      | (with_reducible refine AR.f ?_)
      | refine ap (by decide) ?_
      | (with_reducible refine AWP.cond rfl ?_ ?_<;>intro hc<;>(try simp only [hcs,beq_iff_eq,ge_iff_le,gt_iff_lt] at hc))
      | ((first | ((first | (with_reducible first | refine zR ?_));intro K hK) | ((first | (with_reducible refine aunder_i ?_ ?_<;>intro hg) | with_reducible intro hg)<;>(first | (exfalso;simp at hg;done) | (have hg':=hg;(try simp only [hcs,beq_iff_eq,ge_iff_le,gt_iff_lt] at hg');(try simp only [hg])))))<;>(try simp (disch:=omega) only [go_sem,aa])<;>(repeat' with_reducible refine And.intro ?_ ?_)<;>(try (with_reducible refine hK _ ?_;clear hK K)))
      | omega)
        all_goals first | (exfalso;omega) | skip
        all_goals (refine zO ?_ ?_;(focus ((try simp (disch:=omega) only [go_sem,aa,true_and])<;>fail));simp (disch:=omega) only [go_sem,aa,true_and];exact ag.worldV (r:=noR te) (rfl) rfl rfl (by rw [hv.d];rfl))
      subst hte
      (repeat' first
    | (with_reducible refine AR.f ?_)
    | refine ap (by decide) ?_
    | (with_reducible refine AWP.cond rfl ?_ ?_<;>intro hc<;>(try simp only [hcs,beq_iff_eq,ge_iff_le,gt_iff_lt] at hc))
    | ((first | ((first | (with_reducible first | refine zR ?_));intro K hK) | ((first | (with_reducible refine aunder_i ?_ ?_<;>intro hg) | with_reducible intro hg)<;>(first | (exfalso;simp at hg;done) | (have hg':=hg;(try simp only [hcs,beq_iff_eq,ge_iff_le,gt_iff_lt] at hg');(try simp only [hg])))))<;>(try simp (disch:=omega) only [go_sem,aa])<;>(repeat' with_reducible refine And.intro ?_ ?_)<;>(try (with_reducible refine hK _ ?_;clear hK K)))
    | omega)
      all_goals first | (exfalso;omega) | skip
      have k2:=Kj hv.l.sl hk4
      refine AWP.meetB [0,3,4,9,10,11,12,75] [] [.cells (wC (cw (v.2.1.setS v.1 t1)) 1),.rows 7 (w.done.map ATxn.row),.cells [I kind,I (cl:Int),I server,I rq.op,I rq.session,S rq.path,S rq.data,I rq.version,I rq.flags,I lost,I slow,I keep,B watch],.cells [I 0,I 0,S [],S [],I 0,I 0,I 0,I 0,I 0,I 0,I 0,.d (.sc (.slice none 0 0))],.cells [I rq.op,I (w.c cl).session,S rq.path,S rq.data,I rq.version,I rq.flags],.cells [I x.zxid,I x.op,I x.session,S x.path,S x.data,I x.version,I x.owner],.rows 1 (v.2.2.map oo)] ?_ ?_
      · (repeat' first
      | (with_reducible refine AR.f ?_)
      | refine ap (by decide) ?_
      | (with_reducible refine AWP.cond rfl ?_ ?_<;>intro hc<;>(try simp only [hcs,beq_iff_eq,ge_iff_le,gt_iff_lt] at hc))
      | ((first | ((first | refine zP ((Plan.takes [0,1,2,3,4,5,6,7,8,9] .done)) (by decide +kernel) ?_ | refine zP ((Plan.takes [0,1,2,4] (.forks 3 (.fork 5 (.fork 6 (Plan.takes [7,8,9,10,11,12] .done) 10 (Plan.takes [6,7,8,9,11,12] .done)) 10 (Plan.takes [5,6,7,8,9,11,12] .done)) 5 (.fork 3 (.fork 6 (Plan.takes [7,8,9,10,11,12] .done) 10 (Plan.takes [6,7,8,9,11,12] .done)) 10 (Plan.takes [3,6,7,8,9,11,12] .done)) 10 (Plan.takes [3,5,6,7,8,9,11,12] .done)))) (by decide +kernel) ?_ | refine zP ((Plan.takes [0,1,2,3,4,5,6,7,8,9,11,17,18] (.fork 10 (Plan.takes [12,13,14,15,16,19,20] .done) 12 (Plan.takes [10,13,14,15,16,19,20] .done)))) (by decide +kernel) ?_ | refine zP ((Plan.takes [0,1,2,3,4,7] (.forks 5 (.fork 6 (.fork 8 (Plan.takes [9,10,11,12,13,14] .done) 12 (Plan.takes [8,9,10,11,13,14] .done)) 12 (Plan.takes [6,8,9,10,11,13,14] .done)) 6 (.fork 5 (.fork 8 (Plan.takes [9,10,11,12,13,14] .done) 12 (Plan.takes [8,9,10,11,13,14] .done)) 12 (Plan.takes [5,8,9,10,11,13,14] .done)) 12 (Plan.takes [5,6,8,9,10,11,13,14] .done)))) (by decide +kernel) ?_ | refine zP ((Plan.takes [0,1,2,3,4,5,6] .done)) (by decide +kernel) ?_ | (with_reducible first | refine zR ?_ | refine zQ (by decide +kernel) ?_ | refine zD (by decide +kernel) ?_ | refine zE (by decide +kernel) ?_ | refine zG (by decide +kernel) ?_));intro K hK) | ((first | (with_reducible refine aunder_i ?_ ?_<;>intro hg) | with_reducible intro hg)<;>(first | (exfalso;simp at hg;done) | (have hg':=hg;(try simp only [hcs,beq_iff_eq,ge_iff_le,gt_iff_lt] at hg');(try simp only [hg])))))<;>(try simp (disch:=omega) only [go_sem,aa])<;>(repeat' with_reducible refine And.intro ?_ ?_)<;>(try (with_reducible refine hK _ ?_;clear hK K)))
      | omega)
        all_goals first | (exfalso;omega) | skip
        all_goals exact zFr [0,1,2,3,4,5,6] @k2
      simp only [go_sem]
      have hnx:=hnx (fun h=>h rfl)
      cases sf
      · first
        | contradiction
        | skip
        all_goals (refine zW qs zn @hsf2 (z1 ?_)<;>(repeat with_reducible intro hc))
        all_goals first | (exfalso;omega) | contradiction | skip
        all_goals refine ⟨(v.1+1,v.2.1.setS v.1 t1,v.2.2),hnx,by simp only;omega,?_⟩
        all_goals exact zFr [0,1,2,3,4,5,6] trivial
      · (repeat' first
      | (with_reducible refine AR.f ?_)
      | refine ap (by decide) ?_
      | (with_reducible refine AWP.cond rfl ?_ ?_<;>intro hc<;>(try simp only [hcs,beq_iff_eq,ge_iff_le,gt_iff_lt] at hc))
      | ((first | ((first | (with_reducible first | refine zR ?_));intro K hK) | ((first | (with_reducible refine aunder_i ?_ ?_<;>intro hg) | with_reducible intro hg)<;>(first | (exfalso;simp at hg;done) | (have hg':=hg;(try simp only [hcs,beq_iff_eq,ge_iff_le,gt_iff_lt] at hg');(try simp only [hg])))))<;>(try simp (disch:=omega) only [go_sem,aa,hsf2])<;>(repeat' with_reducible refine And.intro ?_ ?_)<;>(try (with_reducible refine hK _ ?_;clear hK K)))
      | omega)
        all_goals first | (exfalso;omega) | skip
        refine ⟨(v.1+1,v.2.1.setS v.1 t1,v.2.2++[v.1]),hnx,by simp only;omega,?_⟩
        exact zFr [0,1,2,3,4,5,8] (zx @List.map_append.{0,0} (zx @List.map_cons.{0,0} (zx @List.map_nil.{0,0} (zx @oo.eq_1 (zx @List.length_append.{0} (zx @List.length_cons.{0} @List.length_nil.{0})))))))
  have hF2:=hv.end hk4
  subst hF2
  simp only [ne_eq,not_true_eq_false,if_false]
  by_cases hlt:v.2.2.length < 2
  · rw [if_pos hlt]
    (refine zW qs (z2 (ic Tryz.func107) (ic Tryz.func108)) trivial (z1 ?_)<;>(repeat with_reducible intro hc))
    all_goals first | (exfalso;omega) | contradiction | (exfalso;simp_all;done) | skip
    all_goals (refine zO ?_ ?_;(focus ((try simp (disch:=omega) only [go_sem,aa,true_and])<;>fail));simp (disch:=omega) only [go_sem,aa,true_and];exact ag.worldV (r:=⟨16,x.zxid,[],[],default,[]⟩) (pz _) rfl rfl (by show _=some (ABlk.rows 7 (v.2.1.done.map ATxn.row));rw [hv.d];rfl))
  rw [if_neg hlt]
  have hcc:∀ i,v.2.1.c i=w.c i:=fun i=>by show v.2.1.cl.getD i default=w.cl.getD i default;rw [hv.c]
  have hcm:=DQ v.2.1 cl x v.2.2 ⟨hv.l,hv.sg,fun i hi=>by rw [hcc];exact hc16 i hi,by rw [hv.d];exact hdn,by rw [hv.ld];omega,⟨by omega,hh2⟩,hcl,by rw [hcc];exact hsx,hxw⟩ (cl:Int) rfl
  unfold inW cE avN at hcm
  rw [hv.d] at hcm
  generalize js v.2.1 cl x v.2.2=R at hcm ⊢
  obtain ⟨w',r⟩:=R
  simp only at hcm ⊢
  have hnt:((v.2.2.map oo).drop 0).take v.2.2.length=v.2.2.map oo:=by rw [List.drop_zero];exact List.take_of_length_le (by simp)
  refine AWP.weaken (aF.frz1 10 6 (fun j hj=>⟨by omega,by rcases j with _ | _ | j<;>first | exact ⟨_,rfl,by simp⟩ | omega⟩) rfl rfl (by simp)) ?_
  simp only [go_sem,hnt]
  (refine zW qs (z2 (ac [0,1] hcm) (ic Tryz.func107)) trivial (z1 ?_)<;>(repeat with_reducible intro hc))
  all_goals first | (exfalso;omega) | skip
  refine zO ?_ ?_
  · simp (disch:=omega) only [go_sem,aa]
  simp (disch:=omega) only [go_sem,aa]
  exact ag.worldM 7 8 (r:=r) rfl rfl rfl (by decide) rfl (by decide)
theorem ye:Pls [Plan.takes [0,1,3,4,7,8,9,10] (.forks 2 (Plan.takes [5] (.forks 6 (.fork 11 (.fork 12 (Plan.takes [13,14,15,16,17,18] .done) 16 (Plan.takes [12,13,14,15,17,18] .done)) 16 (Plan.takes [11,12,13,14,15,17,18] .done)) 11 (.fork 6 (.fork 12 (Plan.takes [13,14,15,16,17,18] .done) 16 (Plan.takes [12,13,14,15,17,18] .done)) 16 (Plan.takes [6,12,13,14,15,17,18] .done)) 16 (Plan.takes [6,11,12,13,14,15,17,18] .done))) 11 (.fork 2 (Plan.takes [5] (.fork 6 (.fork 12 (Plan.takes [13,14,15,16,17,18] .done) 16 (Plan.takes [12,13,14,15,17,18] .done)) 16 (Plan.takes [6,12,13,14,15,17,18] .done))) 16 (Plan.takes [2,5,6,12,13,14,15,17,18] .done)) 16 (Plan.takes [2,5,6,11,12,13,14,15,17,18] .done)),Plan.takes [0,1,2,3,4,5,6,7,8,9,10,11,12,13,14,15] .done,Plan.takes [0,1,2,4,5] (.forks 3 (.fork 6 (.fork 7 (Plan.takes [8,9,10,11,12,13] .done) 11 (Plan.takes [7,8,9,10,12,13] .done)) 11 (Plan.takes [6,7,8,9,10,12,13] .done)) 6 (.fork 3 (.fork 7 (Plan.takes [8,9,10,11,12,13] .done) 11 (Plan.takes [7,8,9,10,12,13] .done)) 11 (Plan.takes [3,7,8,9,10,12,13] .done)) 11 (Plan.takes [3,6,7,8,9,10,12,13] .done)),Plan.takes [0,1,2,3,4,5,6,7] .done,Plan.takes [0,1,2,3,4,5,6,7,8,9,10,11,12,13] .done]:=pls _
structure RdOk (w:AWorld):Prop where
  l:WL w
  t:∀ i,i < 3→(w.s i).tree.nodes.length*88≤140737488351232∧aU (aL (w.s i).tree)
  v:∀ i,i < 3→(w.s i).watches.length≤100000
  c:∀ i,i < 16→(w.c i).cache.length≤100000∧aU ((w.c i).cache.map AEntry.path)
theorem Ee {c:AClient} {z:Int} (h:(eP c z).2=0):(eP c z).1.cache=c.cache∧(eP c z).1.session=c.session:=by
  unfold eP at h ⊢
  by_cases hz:z < c.seen
  · rw [if_pos hz] at h;exact absurd h (by decide)
  · rw [if_neg hz];exact ⟨rfl,rfl⟩
theorem EV {w:AWorld} {kind:Int} {k i:Nat} {rq:ARequest} {lost slow keep:Int} {watch:Bool} (h1:¬ ((k:Int) < 0∨16≤(k:Int)∨(i:Int) < 0∨3≤(i:Int))) {n:ANode×Int} {c:AClient×Int} (hn:aP (w.s i).tree rq.path=n) (hc:eP (w.c k) (w.s i).tree.zxid=c) :
    ib w ⟨kind,k,i,rq,lost,slow,keep,watch⟩=if (w.s i).up=false then (w,noR 14) else if c.2≠0 then (w,noR c.2) else
      if watch=true then if (jS (w.s i).watches ⟨c.1.session,1,rq.path⟩).2≠0 then (w,noR (jS (w.s i).watches ⟨c.1.session,1,rq.path⟩).2) else
        ((w.setS i { w.s i with watches:=(jS (w.s i).watches ⟨c.1.session,1,rq.path⟩).1 }).setC k ⟨c.1.session,c.1.seen,iK c.1.cache ⟨rq.path,n.1.data,decide (n.2=0)⟩⟩,⟨n.2,(w.s i).tree.zxid,n.1.path,n.1.data,n.1.stat,[]⟩)
      else (w.setC k c.1,⟨n.2,(w.s i).tree.zxid,n.1.path,n.1.data,n.1.stat,[]⟩):=by
  subst hn hc
  unfold ib
  rw [if_neg h1]
  rfl
set_option maxHeartbeats 16000000 in
theorem JY (w:AWorld) (d:ADeed) (hw:RdOk w) (hdw:d.wf):ab Tryz.prog (inW w) 56 [.ptr 0 0,d.av] (cE (ib w d).1 (ib w d).2):=by
  obtain ⟨⟨e1,e2,e3⟩,ht,hv,hc16⟩:=hw
  obtain ⟨kind,client,server,rq,lost,slow,keep,watch⟩:=d
  obtain ⟨_,hcI,hsI,hrq,_,_,_,_⟩:=hdw
  simp only at hcI hsI hrq
  by_cases h1:client < 0∨16≤client∨server < 0∨3≤server
  · unfold ib
    simp only
    rw [if_pos h1]
    have hcb:(decide (client < 0) || decide (16≤client) || decide (server < 0) || decide (3≤server))=true:=by rcases h1 with h | h | h | h<;>simp [h]
    unfold inW cE
    refine zJ Tryz.func56 Tryz.ntmps56 Tryz.results56 ?_;simp only [go_sem]
    (refine zW qs zn @hcb (z1 ?_)<;>(repeat with_reducible intro hc))
    all_goals first | (exfalso;omega) | contradiction | (exfalso;simp_all;done) | skip
    all_goals (refine zO ?_ ?_;(focus ((try simp (disch:=omega) only [go_sem,aa])<;>fail));simp (disch:=omega) only [go_sem,aa];exact ag.worldV (r:=noR 3) (rfl) rfl rfl rfl)
  obtain ⟨k,rfl⟩:∃ k:Nat,client=(k:Int):=⟨client.toNat,by omega⟩
  obtain ⟨i,rfl⟩:∃ i:Nat,server=(i:Int):=⟨server.toNat,by omega⟩
  have hk:k < 16:=by omega
  have hi:i < 3:=by omega
  have hcb:(decide ((k:Int) < 0) || decide (16≤(k:Int)) || decide ((i:Int) < 0) || decide (3≤(i:Int)))=false:=by rw [decide_eq_false (by omega),decide_eq_false (by omega),decide_eq_false (by omega),decide_eq_false (by omega)];rfl
  have hti:=ht i hi
  have hvi:=hv i hi
  have hck:=hc16 k hk
  have hgt:=iO (w.s i).tree rq.path hti.1 hti.2
  have hsc:=K4 (w.c k) (w.s i).tree.zxid (by omega)
  have hse:=@Ee (w.c k) (w.s i).tree.zxid
  have hrd:=@EV w kind k i rq lost slow keep watch h1 _ _ rfl rfl
  rw [hrd]
  clear hrd
  generalize aP (w.s i).tree rq.path=gq at hgt ⊢
  obtain ⟨gn,ge⟩:=gq
  generalize eP (w.c k) (w.s i).tree.zxid=sq at hsc hse ⊢
  obtain ⟨c,ce⟩:=sq
  simp only at hgt hsc hse ⊢
  unfold inW cE
  refine zJ Tryz.func56 Tryz.ntmps56 Tryz.results56 ?_;simp only [go_sem]
  (refine zW qs zn @hcb (z1 ?_)<;>(repeat with_reducible intro hc))
  all_goals first | (exfalso;omega) | contradiction | (exfalso;simp_all;done) | skip
  refine AWP.meetB [0,3,4] [(5,.ptr 0 (i*10))] [.cells (wC (cw w) 1),.rows 7 (w.done.map ATxn.row),.cells [I kind,I (k:Int),I (i:Int),I rq.op,I rq.session,S rq.path,S rq.data,I rq.version,I rq.flags,I lost,I slow,I keep,B watch],.cells [I 0,I 0,S [],S [],I 0,I 0,I 0,I 0,I 0,I 0,I 0,.d (.sc (.slice none 0 0))]] ?_ ?_
  · (refine zW qw zn trivial (z1 ?_)<;>(repeat with_reducible intro hc))
    all_goals first | (exfalso;omega) | skip
    all_goals exact zFr [0,1,2,3] trivial
  simp only [go_sem]
  by_cases hup:(w.s i).up=false
  · rw [if_pos hup]
    (refine zW qs zn @hup (z1 ?_)<;>(repeat with_reducible intro hc))
    all_goals first | (exfalso;omega) | contradiction | (exfalso;simp_all;done) | skip
    all_goals (refine zO ?_ ?_;(focus ((try simp (disch:=omega) only [go_sem,aa])<;>fail));simp (disch:=omega) only [go_sem,aa];exact ag.worldV (r:=noR 14) (rfl) rfl rfl rfl)
  rw [if_neg hup]
  have hup2:(w.s i).up=true:=by simpa using hup
  (refine zW qs zn @hup2 (z1 ?_)<;>(repeat with_reducible intro hc))
  all_goals first | (exfalso;omega) | contradiction | (exfalso;simp_all;done) | skip
  refine AWP.meetB [0,3,4,5] [(6,.ptr 4 0),(7,I ce)] [.cells (wC (cw w) 1),.rows 7 (w.done.map ATxn.row),.cells [I kind,I (k:Int),I (i:Int),I rq.op,I rq.session,S rq.path,S rq.data,I rq.version,I rq.flags,I lost,I slow,I keep,B watch],.cells [I 0,I 0,S [],S [],I 0,I 0,I 0,I 0,I 0,I 0,I 0,.d (.sc (.slice none 0 0))],.cells [I c.session,I c.seen,.d (.sl 3 (c.cache.map AEntry.row))]] ?_ ?_
  · (refine zW qw (z2 ye hsc) trivial (zc ?_ (zc ?_ (zc ?_ (zc ?_ (zc ?_ (zc ?_ (zc ?_ (zc ?_ (z4 ?_ ?_ ?_ ?_)))))))))<;>(repeat with_reducible intro hc))
    all_goals first | (exfalso;omega) | skip
    all_goals exact zFr [0,1,2,3,4] trivial
  simp only [go_sem]
  by_cases hce:ce=0
  case neg=>
    rw [if_pos hce]
    (refine zW qs zn trivial (z1 ?_)<;>(repeat with_reducible intro hc))
    all_goals first | (exfalso;omega) | contradiction | (exfalso;simp_all;done) | skip
    all_goals (refine zO ?_ ?_;(focus ((try simp (disch:=omega) only [go_sem,aa])<;>fail));simp (disch:=omega) only [go_sem,aa];exact ag.worldV (r:=noR ce) (rfl) rfl rfl rfl)
  subst hce
  rw [if_neg (fun h=>h rfl)]
  obtain ⟨hcc,hcs⟩:=hse rfl
  cases watch
  · rw [if_neg (by decide)]
    have k3:=Le e3 hk
    (refine zW qs zn trivial (z3 ?_ ?_ ?_)<;>(repeat with_reducible intro hc))
    all_goals first | (exfalso;omega) | contradiction | (exfalso;simp_all;done) | skip
    refine AWP.meetB [0,3,4,5,6] [(7,I ge),(10,.ptr 5 0)] [.cells (wC (cw w) 1),.rows 7 (w.done.map ATxn.row),.cells [I kind,I (k:Int),I (i:Int),I rq.op,I rq.session,S rq.path,S rq.data,I rq.version,I rq.flags,I lost,I slow,I keep,B false],.cells [I 0,I 0,S [],S [],I 0,I 0,I 0,I 0,I 0,I 0,I 0,.d (.sc (.slice none 0 0))],.cells [I c.session,I c.seen,.d (.sl 3 (c.cache.map AEntry.row))],.cells [S gn.path,S gn.data,I gn.stat.czxid,I gn.stat.mzxid,I gn.stat.pzxid,I gn.stat.version,I gn.stat.cversion,I gn.stat.owner,I gn.stat.kids]] ?_ ?_
    · (refine zW qw (z2 ye hgt) trivial (zc ?_ (zc ?_ (zc ?_ (z4 ?_ ?_ ?_ ?_))))<;>(repeat with_reducible intro hc))
      all_goals first | (exfalso;omega) | skip
      all_goals exact zFr [0,1,2,3,4,5] trivial
    simp only [go_sem]
    (repeat' first
  | (with_reducible refine AR.f ?_)
  | refine ap (by decide) ?_
  | (with_reducible refine AWP.cond rfl ?_ ?_<;>intro hc<;>(try simp only [hcs,beq_iff_eq,ge_iff_le,gt_iff_lt] at hc))
  | ((first | ((first | (with_reducible first | refine zR ?_));intro K hK) | ((first | (with_reducible refine aunder_i ?_ ?_<;>intro hg) | with_reducible intro hg)<;>(first | (exfalso;simp at hg;done) | (have hg':=hg;(try simp only [hcs,beq_iff_eq,ge_iff_le,gt_iff_lt] at hg');(try simp only [hg])))))<;>(try simp (disch:=omega) only [go_sem,aa])<;>(repeat' with_reducible refine And.intro ?_ ?_)<;>(try (with_reducible refine hK _ ?_;clear hK K)))
  | omega)
    all_goals first | (exfalso;omega) | contradiction | (exfalso;simp_all;done) | skip
    refine AWP.meetB [0,3,4,5,6,7,10] [] [.cells (wC (cw (w.setC k c)) 1),.rows 7 (w.done.map ATxn.row),.cells [I kind,I (k:Int),I (i:Int),I rq.op,I rq.session,S rq.path,S rq.data,I rq.version,I rq.flags,I lost,I slow,I keep,B false],.cells [I 0,I 0,S [],S [],I 0,I 0,I 0,I 0,I 0,I 0,I 0,.d (.sc (.slice none 0 0))],.cells [I c.session,I c.seen,.d (.sl 3 (c.cache.map AEntry.row))],.cells [S gn.path,S gn.data,I gn.stat.czxid,I gn.stat.mzxid,I gn.stat.pzxid,I gn.stat.version,I gn.stat.cversion,I gn.stat.owner,I gn.stat.kids]] ?_ ?_
    · (refine zW qw (z1 ye) trivial (z1 ?_)<;>(repeat with_reducible intro hc))
      all_goals first | (exfalso;omega) | skip
      all_goals exact zFr [0,1,2,3,4,5] @k3
    simp only [go_sem]
    have hws:(w.setC k c).s=w.s:=rfl
    (refine zW qw (z1 ye) @hws (z1 ?_)<;>(repeat with_reducible intro hc))
    all_goals first | (exfalso;omega) | contradiction | (exfalso;simp_all;done) | skip
    all_goals (refine zO ?_ ?_;(focus ((try simp (disch:=omega) only [go_sem,aa])<;>fail));simp (disch:=omega) only [go_sem,aa];exact ag.worldV (r:=⟨ge,(w.s i).tree.zxid,gn.path,gn.data,gn.stat,[]⟩) (rfl) rfl rfl rfl)
  · rw [if_pos rfl]
    have had:=M8 (w.s i).watches ⟨c.session,1,rq.path⟩ (by omega) hrq.2.2.1
    generalize jS (w.s i).watches ⟨c.session,1,rq.path⟩=aq at had ⊢
    obtain ⟨wl,ae⟩:=aq
    simp only at had ⊢
    (refine zW qs zn trivial (z3 ?_ ?_ ?_)<;>(repeat with_reducible intro hc))
    all_goals first | (exfalso;omega) | contradiction | (exfalso;simp_all;done) | skip
    refine AWP.meetB [0,3,4,5,6] [(8,.d (.sl 3 (wl.map AWatch.row))),(9,I ae)] [.cells (wC (cw w) 1),.rows 7 (w.done.map ATxn.row),.cells [I kind,I (k:Int),I (i:Int),I rq.op,I rq.session,S rq.path,S rq.data,I rq.version,I rq.flags,I lost,I slow,I keep,B true],.cells [I 0,I 0,S [],S [],I 0,I 0,I 0,I 0,I 0,I 0,I 0,.d (.sc (.slice none 0 0))],.cells [I c.session,I c.seen,.d (.sl 3 (c.cache.map AEntry.row))]] ?_ ?_
    · (refine zW qw (z2 ye had) trivial (z1 ?_)<;>(repeat with_reducible intro hc))
      all_goals first | (exfalso;omega) | skip
      all_goals exact zFr [0,1,2,3,4] trivial
    simp only [go_sem]
    by_cases hae:ae=0
    case neg=>
      rw [if_pos hae]
      (refine zW qs zn trivial (z2 ?_ ?_)<;>(repeat with_reducible intro hc))
      all_goals first | (exfalso;omega) | contradiction | (exfalso;simp_all;done) | skip
      all_goals (refine zO ?_ ?_;(focus ((try simp (disch:=omega) only [go_sem,aa])<;>fail));simp (disch:=omega) only [go_sem,aa];exact ag.worldV (r:=noR ae) (rfl) rfl rfl rfl)
    subst hae
    rw [if_neg (fun h=>h rfl)]
    (refine zW qs zn trivial (z2 ?_ ?_)<;>(repeat with_reducible intro hc))
    all_goals first | (exfalso;omega) | contradiction | (exfalso;simp_all;done) | skip
    have k1:=Kj e1 hi
    have hws:(w.setS i { w.s i with watches:=wl }).s i={ w.s i with watches:=wl }:=by rw [dN (by omega),if_pos rfl]
    refine AWP.meetB [0,3,4,5,6] [(7,I ge),(10,.ptr 5 0)] [.cells (wC (cw (w.setS i { w.s i with watches:=wl })) 1),.rows 7 (w.done.map ATxn.row),.cells [I kind,I (k:Int),I (i:Int),I rq.op,I rq.session,S rq.path,S rq.data,I rq.version,I rq.flags,I lost,I slow,I keep,B true],.cells [I 0,I 0,S [],S [],I 0,I 0,I 0,I 0,I 0,I 0,I 0,.d (.sc (.slice none 0 0))],.cells [I c.session,I c.seen,.d (.sl 3 (c.cache.map AEntry.row))],.cells [S gn.path,S gn.data,I gn.stat.czxid,I gn.stat.mzxid,I gn.stat.pzxid,I gn.stat.version,I gn.stat.cversion,I gn.stat.owner,I gn.stat.kids]] ?_ ?_
    · (refine zW qw (z2 ye hgt) trivial (zc ?_ (zc ?_ (zc ?_ (z4 ?_ ?_ ?_ ?_))))<;>(repeat with_reducible intro hc))
      all_goals first | (exfalso;omega) | skip
      all_goals exact zFr [0,1,2,3,4,5] @k1
    simp only [go_sem]
    have hkp:=JZ c ⟨rq.path,gn.data,decide (ge=0)⟩ (by rw [hcc];exact hck.1) (by rw [hcc];exact hck.2)
    have k3:=Le (w:=w.setS i { w.s i with watches:=wl }) e3 hk
    (refine zW qs (z1 hkp) trivial (z2 ?_ ?_)<;>(repeat with_reducible intro hc))
    all_goals first | (exfalso;omega) | contradiction | (exfalso;simp_all;done) | skip
    refine AWP.meetB [0,3,4,5,6,7,10] [] [.cells (wC (cw ((w.setS i { w.s i with watches:=wl }).setC k ⟨c.session,c.seen,iK c.cache ⟨rq.path,gn.data,decide (ge=0)⟩⟩)) 1),.rows 7 (w.done.map ATxn.row),.cells [I kind,I (k:Int),I (i:Int),I rq.op,I rq.session,S rq.path,S rq.data,I rq.version,I rq.flags,I lost,I slow,I keep,B true],.cells [I 0,I 0,S [],S [],I 0,I 0,I 0,I 0,I 0,I 0,I 0,.d (.sc (.slice none 0 0))],.cells [I c.session,I c.seen,.d (.sl 3 ((iK c.cache ⟨rq.path,gn.data,decide (ge=0)⟩).map AEntry.row))],.cells [S gn.path,S gn.data,I gn.stat.czxid,I gn.stat.mzxid,I gn.stat.pzxid,I gn.stat.version,I gn.stat.cversion,I gn.stat.owner,I gn.stat.kids]] ?_ ?_
    · (refine zW qw (z1 ye) trivial (z1 ?_)<;>(repeat with_reducible intro hc))
      all_goals first | (exfalso;omega) | skip
      all_goals exact zFr [0,1,2,3,4,5] @k3
    simp only [go_sem]
    have hws2:((w.setS i { w.s i with watches:=wl }).setC k ⟨c.session,c.seen,iK c.cache ⟨rq.path,gn.data,decide (ge=0)⟩⟩).s=(w.setS i { w.s i with watches:=wl }).s:=rfl
    (refine zW qw (z1 ye) (zx @hws2 @hws) (z1 ?_)<;>(repeat with_reducible intro hc))
    all_goals first | (exfalso;omega) | contradiction | (exfalso;simp_all;done) | skip
    all_goals (refine zO ?_ ?_;(focus ((try simp (disch:=omega) only [go_sem,aa])<;>fail));simp (disch:=omega) only [go_sem,aa];exact ag.worldV (r:=⟨ge,(w.s i).tree.zxid,gn.path,gn.data,gn.stat,[]⟩) (rfl) rfl rfl rfl)
theorem bx.log {w:AWorld} {n:Nat} (h:bx w n) {j:Nat} (hj:j < 3):(w.s j).peer.log.length≤n:=by
  obtain ⟨⟨g,es,K,h1⟩,_,_⟩:=h
  obtain ⟨_,hu,hd⟩:=h1.sv j hj
  cases e:(w.s j).up
  · obtain ⟨_,_,hk,_⟩:=hd e
    rw [hk.log];exact Nat.zero_le _
  · obtain ⟨_,_,_,hlg,_⟩:=hu e
    rw [hlg];exact h1.small j hj
theorem bx.few {w:AWorld} {n:Nat} (h:bx w n):w.done.length≤n:=by
  obtain ⟨⟨g,es,K,h1⟩,_,_⟩:=h
  obtain ⟨i,j,hi,_,_,⟨_,ha⟩,_⟩:=h1.pr.k1
  exact Nat.le_trans h1.ack.length_le (Nat.le_trans ha (Nat.le_trans (h1.pr.al i hi) (h1.small i hi)))
theorem bx.wl {w:AWorld} {n:Nat} (h:bx w n):WL w:=by
  obtain ⟨⟨g,es,K,h1⟩,_,_⟩:=h
  exact ⟨h1.sl,h1.fl,h1.cl⟩
theorem bx.ld {w:AWorld} {n:Nat} (h:bx w n):w.leader < 3:=by
  obtain ⟨⟨g,es,K,h1⟩,_,_⟩:=h
  by_cases hl:0≤w.leader
  · exact (h1.pr.ld0 hl).1
  · omega
theorem bx.sgs {w:AWorld} {n:Nat} (h:bx w n) (hn:n < 1000) {j:Nat} (hj:j < 3):SG (w.s j):=by
  obtain ⟨a,b,c,d,e⟩:=h.server hn hj
  exact ⟨⟨a,b,fun x hx=>by have:=(d x hx).2;omega⟩,c,e.1⟩
theorem bx.cache {w:AWorld} {n:Nat} (h:bx w n) (hn:n < 1000) {i:Nat} (hi:i < 16):(w.c i).cache.length≤100000∧aU ((w.c i).cache.map AEntry.path):=by
  obtain ⟨_,_,a,b,_⟩:=h.client hn hi
  exact ⟨by omega,a⟩
theorem bx.el {w:AWorld} {n:Nat} (h:bx w n) (hn:n < 1000):ElOk w:=
  ⟨h.wl,fun _ hi=>(h.sgs hn hi).gs,fun i hi=>by have:=h.log hi;omega,fun _ hi=>(h.sgs hn hi).v,fun _ hi=>h.cache hn hi,by have:=h.few;omega⟩
theorem bx.rd {w:AWorld} {n:Nat} (h:bx w n) (hn:n < 1000):RdOk w:=
  ⟨h.wl,fun _ hi=>⟨(h.sgs hn hi).gs.t.1.2.1.1,aV (h.sgs hn hi).g⟩,fun _ hi=>by have:=(h.sgs hn hi).v;omega,fun _ hi=>h.cache hn hi⟩
theorem bx.wr {w:AWorld} {n:Nat} (h:bx w n) (hn:n < 1000):WrOk w:=by
  refine ⟨h.wl,fun _ hi=>h.sgs hn hi,fun i hi=>by have:=h.log hi;omega,fun _ hi=>h.cache hn hi,fun i hi=>(h.client hn hi).1.1,by have:=h.few;omega,h.ld,fun i hi hl0=>.inl ?_⟩
  obtain ⟨⟨g,es,K,h⟩,_,_⟩:=h
  obtain ⟨hl3,hlE⟩:=h.pr.ld0 hl0
  have hli:w.leader.toNat < 3:=by omega
  obtain ⟨hlf,hldone⟩:=h.lead hl0
  obtain ⟨hlu,_⟩:=h.fol hl0 _ hli hlf
  obtain ⟨ee,he,hk,hlg,hep⟩:=(h.sv _ hli).2.1 hlu
  obtain ⟨z0,z1,z2⟩:=h.lastOk hli
  obtain ⟨n1,n2,n3,n4⟩:=By (p:=(w.s w.leader.toNat).peer) (n:=n) (by omega) h.pr.es0 h.pr.esn (by rw [hep,hlE]) (by rw [hlg];exact z0) (by rw [hlg];exact z1) (by rw [hlg];exact z2)
  rw [hlg] at n4
  rcases (h.cli _ hi).2.2.2.2 hl0 with a | a<;>omega
theorem bx.deed {w:AWorld} {n:Nat} (h:bx w n) (d:Int):bx { w with deeds:=d } n:=by
  obtain ⟨⟨g,es,K,h1⟩,h2,h3⟩:=h
  exact ⟨⟨g,es,K,h1.deeds d⟩,h2,h3⟩
set_option maxHeartbeats 16000000 in
theorem oc (w:AWorld) (d:ADeed) (n:Nat) (h:bx w n) (hn:n < 1000) (h0:0≤w.deeds) (hdw:d.wf) (hdp:d.request.path.length≤1048576):ab Tryz.prog (inW w) 17 [.ptr 0 0,d.av] (cE (doW w d).1 (doW w d).2):=by
  unfold doW
  by_cases h3:300≤w.deeds
  · rw [if_pos h3]
    unfold inW cE
    refine zJ Tryz.func17 Tryz.ntmps17 Tryz.results17 ?_;simp only [go_sem]
    (refine zW qw zn trivial (z1 ?_)<;>(repeat with_reducible intro hc))
    all_goals first | (exfalso;omega) | contradiction | (exfalso;simp_all;done) | skip
    all_goals (refine zO ?_ ?_;(focus ((try simp (disch:=omega) only [go_sem,aa])<;>fail));simp (disch:=omega) only [go_sem,aa];exact ag.worldV (r:=noR 6) (rfl) rfl rfl rfl)
  rw [if_neg h3]
  have h:=h.deed (w.deeds+1)
  have hwr:=He { w with deeds:=w.deeds+1 } d (h.wr hn) hdw hdp
  have hrd:=JY { w with deeds:=w.deeds+1 } d (h.rd hn) hdw
  have hel:=Fa { w with deeds:=w.deeds+1 } (h.el hn)
  have hcr:=fun i hi ii hii=>GO { w with deeds:=w.deeds+1 } i d.keep hi h.wl (h.server hn hi).1 ii hii
  have hup:=fun i hi ii hii=>Mz { w with deeds:=w.deeds+1 } i hi h.wl (h.server hn hi).1 ii hii
  have k1:(cw w).setD (w.deeds+1)=cw { w with deeds:=w.deeds+1 }:=rfl
  have k2:w.done=({ w with deeds:=w.deeds+1 }:AWorld).done:=rfl
  generalize ({ w with deeds:=w.deeds+1 }:AWorld)=w' at hwr hrd hel hcr hup k1 k2 ⊢
  unfold lX
  by_cases q1:d.kind=1
  · rw [if_pos q1]
    unfold inW cE avN at hwr
    unfold inW cE
    generalize dg w' d=R at hwr ⊢
    obtain ⟨u,r⟩:=R
    simp only at hwr ⊢
    refine zJ Tryz.func17 Tryz.ntmps17 Tryz.results17 ?_;simp only [go_sem]
    (refine zW qw (z1 (ac [0,1] hwr)) (zx @k1 @k2) (z1 ?_)<;>(repeat with_reducible intro hc))
    all_goals first | (exfalso;omega) | contradiction | (exfalso;simp_all;done) | skip
    refine zO ?_ ?_
    · simp (disch:=omega) only [go_sem,aa]
    simp (disch:=omega) only [go_sem,aa]
    exact ag.worldM 4 5 (r:=r) rfl rfl rfl (by decide) rfl (by decide)
  rw [if_neg q1]
  by_cases q2:d.kind=2
  · rw [if_pos q2]
    unfold inW cE avN at hrd
    unfold inW cE
    generalize ib w' d=R at hrd ⊢
    obtain ⟨u,r⟩:=R
    simp only at hrd ⊢
    refine zJ Tryz.func17 Tryz.ntmps17 Tryz.results17 ?_;simp only [go_sem]
    (refine zW qw (z1 (ac [0,1] hrd)) (zx @k1 @k2) (z1 ?_)<;>(repeat with_reducible intro hc))
    all_goals first | (exfalso;omega) | contradiction | (exfalso;simp_all;done) | skip
    refine zO ?_ ?_
    · simp (disch:=omega) only [go_sem,aa]
    simp (disch:=omega) only [go_sem,aa]
    exact ag.worldM 4 5 (r:=r) rfl rfl rfl (by decide) rfl (by decide)
  rw [if_neg q2]
  by_cases q5:d.kind=5
  · rw [if_pos q5]
    unfold inW cE avN at hel
    unfold inW cE
    generalize dw w'=R at hel ⊢
    obtain ⟨u,r⟩:=R
    simp only at hel ⊢
    refine zJ Tryz.func17 Tryz.ntmps17 Tryz.results17 ?_;simp only [go_sem]
    (refine zW qw (z1 (ac [0,1] hel)) (zx @k1 @k2) (z1 ?_)<;>(repeat with_reducible intro hc))
    all_goals first | (exfalso;omega) | contradiction | (exfalso;simp_all;done) | skip
    refine zO ?_ ?_
    · simp (disch:=omega) only [go_sem,aa]
    simp (disch:=omega) only [go_sem,aa]
    exact ag.worldM 4 5 (r:=r) rfl rfl rfl (by decide) rfl (by decide)
  rw [if_neg q5]
  by_cases q3:d.kind=3∨d.kind=4
  case neg=>
    rw [if_neg q3]
    unfold inW cE
    refine zJ Tryz.func17 Tryz.ntmps17 Tryz.results17 ?_;simp only [go_sem]
    (refine zW qw zn (zx @k1 @k2) (z1 ?_)<;>(repeat with_reducible intro hc))
    all_goals first | (exfalso;omega) | contradiction | (exfalso;simp_all;done) | skip
    all_goals (refine zO ?_ ?_;(focus ((try simp (disch:=omega) only [go_sem,aa])<;>fail));simp (disch:=omega) only [go_sem,aa];exact ag.worldV (r:=noR 4) (rfl) rfl rfl rfl)
  rw [if_pos q3]
  by_cases hs:d.server < 0∨3≤d.server
  · rw [if_pos hs]
    unfold inW cE
    refine zJ Tryz.func17 Tryz.ntmps17 Tryz.results17 ?_;simp only [go_sem]
    (refine zW qw zn (zx @k1 @k2) (z2 ?_ ?_)<;>(repeat with_reducible intro hc))
    all_goals first | (exfalso;omega) | contradiction | (exfalso;simp_all;done) | skip
    all_goals (refine zO ?_ ?_;(focus ((try simp (disch:=omega) only [go_sem,aa])<;>fail));simp (disch:=omega) only [go_sem,aa];exact ag.worldV (r:=noR 3) (rfl) rfl rfl rfl)
  rw [if_neg hs]
  have hi:d.server.toNat < 3:=by omega
  by_cases q4:d.kind=4
  · rw [if_pos q4]
    have hup:=hup d.server.toNat hi d.server (by omega)
    unfold inW cE avN at hup
    unfold inW cE
    generalize upW w' d.server.toNat=R at hup ⊢
    obtain ⟨u,r⟩:=R
    simp only at hup ⊢
    refine zJ Tryz.func17 Tryz.ntmps17 Tryz.results17 ?_;simp only [go_sem]
    (refine zW qw (z1 (ac [0,1] hup)) (zx @k1 @k2) (z1 ?_)<;>(repeat with_reducible intro hc))
    all_goals first | (exfalso;omega) | contradiction | (exfalso;simp_all;done) | skip
    refine zO ?_ ?_
    · simp (disch:=omega) only [go_sem,aa]
    simp (disch:=omega) only [go_sem,aa]
    exact ag.worldM 4 5 (r:=r) rfl rfl rfl (by decide) rfl (by decide)
  rw [if_neg q4]
  · have hcr:=hcr d.server.toNat hi d.server (by omega)
    unfold inW cE avN at hcr
    unfold inW cE
    generalize dP w' d.server.toNat d.keep=R at hcr ⊢
    obtain ⟨u,r⟩:=R
    simp only at hcr ⊢
    refine zJ Tryz.func17 Tryz.ntmps17 Tryz.results17 ?_;simp only [go_sem]
    (refine zW qw (z1 (ac [0,1] hcr)) (zx @k1 @k2) (z1 ?_)<;>(repeat with_reducible intro hc))
    all_goals first | (exfalso;omega) | contradiction | (exfalso;simp_all;done) | skip
    refine zO ?_ ?_
    · simp (disch:=omega) only [go_sem,aa]
    simp (disch:=omega) only [go_sem,aa]
    exact ag.worldM 4 5 (r:=r) rfl rfl rfl (by decide) rfl (by decide)
theorem MU:Pls [Plan.takes [0,1,2,3,8,9,4,5,6,7,10,11] .done,Plan.takes [0,1,2,3,8,9,4,5,6,7,10,11] .done]:=pls _
def zS:AServer:=⟨false,⟨[]⟩,⟨0,0,[],0⟩,⟨0,[],[]⟩,[]⟩
def zC:AClient:=⟨0,0,[]⟩
def nW (a b:Nat):CW:=⟨fun j=>if j < a then (cD (j:Int) []).1 else zS,fun j=>if j < b then ⟨(j:Int)+1,0,[]⟩ else zC,-1,fun _=>false,0,0⟩
theorem nW_s (a b:Nat):(nW a b).setS a (cD (a:Int) []).1=nW (a+1) b:=by
  have:(fun j=>if j=a then (cD (a:Int) []).1 else (nW a b).s j)=(nW (a+1) b).s:=funext fun j=>by
    show _=if j < a+1 then (cD (j:Int) []).1 else zS
    by_cases e:j=a
    · subst e;rw [if_pos rfl,if_pos (by omega)]
    · rw [if_neg e]
      show (if j < a then (cD (j:Int) []).1 else zS)=_
      by_cases h:j < a
      · rw [if_pos h,if_pos (by omega)]
      · rw [if_neg h,if_neg (by omega)]
  show CW.mk _ _ _ _ _ _=_
  rw [this];rfl
theorem nW_c (a b:Nat):(nW a b).setC b ⟨(b:Int)+1,0,[]⟩=nW a (b+1):=by
  have:(fun j=>if j=b then (⟨(b:Int)+1,0,[]⟩:AClient) else (nW a b).c j)=(nW a (b+1)).c:=funext fun j=>by
    show _=if j < b+1 then (⟨(j:Int)+1,0,[]⟩:AClient) else zC
    by_cases e:j=b
    · subst e;rw [if_pos rfl,if_pos (by omega)]
    · rw [if_neg e]
      show (if j < b then (⟨(j:Int)+1,0,[]⟩:AClient) else zC)=_
      by_cases h:j < b
      · rw [if_pos h,if_pos (by omega)]
      · rw [if_neg h,if_neg (by omega)]
  show CW.mk _ _ _ _ _ _=_
  rw [this];rfl
theorem LI (k:Nat):wC (nW 3 16) k=wC (cw dM) k:=by
  unfold wC
  rfl
theorem KF {k:Nat} (h:k < 16):F7 ((k:Int)+1)=(⟨(k:Int)+1,0,[]⟩,0):=by
  unfold F7
  rw [if_neg (by omega)]
theorem nW_z (k:Nat):wC (nW 0 0) k=[.d (.bool false),.d (.sl 3 []),I 0,I 0,.d (.sl 7 []),I 0,I 0,.d (.sl 9 []),.d (.sl 1 []),.d (.sl 3 []),.d (.bool false),.d (.sl 3 []),I 0,I 0,.d (.sl 7 []),I 0,I 0,.d (.sl 9 []),.d (.sl 1 []),.d (.sl 3 []),.d (.bool false),.d (.sl 3 []),I 0,I 0,.d (.sl 7 []),I 0,I 0,.d (.sl 9 []),.d (.sl 1 []),.d (.sl 3 []),
  I 0,I 0,.d (.sl 3 []),I 0,I 0,.d (.sl 3 []),I 0,I 0,.d (.sl 3 []),I 0,I 0,.d (.sl 3 []),I 0,I 0,.d (.sl 3 []),I 0,I 0,.d (.sl 3 []),I 0,I 0,.d (.sl 3 []),I 0,I 0,.d (.sl 3 []),I 0,I 0,.d (.sl 3 []),I 0,I 0,.d (.sl 3 []),I 0,I 0,.d (.sl 3 []),I 0,I 0,.d (.sl 3 []),I 0,I 0,.d (.sl 3 []),I 0,I 0,.d (.sl 3 []),I 0,I 0,.d (.sl 3 []),I 0,I 0,.d (.sl 3 []),
  I (-1),B false,B false,B false,.osl k 7 0 0,I 0]:=rfl
set_option maxHeartbeats 16000000 in
theorem Gv:ab Tryz.prog [] 16 [] (cp (.ptr 0 0) [.cells (wC (cw dM) 1),.rows 7 []]):=by
  refine zJ Tryz.func16 Tryz.ntmps16 Tryz.results16 ?_;simp only [go_sem]
  (refine zW qw zn trivial (z1 ?_)<;>(repeat with_reducible intro hc))
  refine AWP.weaken (aF.trans (aF.nilOwnC 0 82 7 rfl rfl) (aF.coeB (cs':=wC (nW 0 0) 1) 0 rfl (by rw [nW_z];simp (disch:=omega) only [go_sem,aa];exact lK _))) ?_
  simp only [go_sem]
  refine AWP.loopB (ι:=Nat) (fun v=>v≤3) (fun v=>3 - v) [1] (fun v=>[(6,I v)]) (fun v=>[.cells (wC (nW v 0) 1),.rows 7 []]) 0 ?_ ?_ ?_
  · exact Nat.zero_le _
  · simp only [go_sem];exact zFr [0,1] trivial
  intro v hv
  simp only [go_sem]
  by_cases hk:v < 3
  · have hb:=FW (v:Int) ⟨[]⟩ (by simp) (fun f hf=>by cases hf)
    have k1:=nW_s v 0
    simp only at hb
    generalize cD (v:Int) []=q at hb k1
    obtain ⟨s,e⟩:=q
    simp only at hb k1
    (refine zW qw (z2 MU hb) trivial (z1 ?_)<;>(repeat with_reducible intro hc))
    all_goals first | (exfalso;omega) | contradiction | (exfalso;simp_all;done) | skip
    all_goals (refine ⟨v+1,by omega,by omega,?_⟩;exact zFr [0,1] @k1)
  obtain rfl:v=3:=by omega
  (refine zW qw zn trivial (z1 ?_)<;>(repeat with_reducible intro hc))
  all_goals first | (exfalso;omega) | contradiction | (exfalso;simp_all;done) | skip
  clear hv hk
  refine AWP.loopB (ι:=Nat) (fun v=>v≤16) (fun v=>16 - v) [1] (fun v=>[(21,I v)]) (fun v=>[.cells (wC (nW 3 v) 1),.rows 7 []]) 0 ?_ ?_ ?_
  · exact Nat.zero_le _
  · simp only [go_sem];exact zFr [0,1] trivial
  intro v hv
  simp only [go_sem]
  by_cases hk:v < 16
  · have hb:=LV ((v:Int)+1)
    rw [KF hk] at hb
    have k2:=M3 (nW 3 v) 1 v hk ((v:Int)+1) 0 []
    rw [nW_c 3 v,List.map_nil] at k2
    (refine zW qw (z2 MU hb) trivial (z1 ?_)<;>(repeat with_reducible intro hc))
    all_goals first | (exfalso;omega) | contradiction | (exfalso;simp_all;done) | skip
    all_goals (refine ⟨v+1,by omega,by omega,?_⟩;exact zFr [0,1] @k2)
  obtain rfl:v=16:=by omega
  (refine zW qw zn trivial (z1 ?_)<;>(repeat with_reducible intro hc))
  all_goals first | (exfalso;omega) | contradiction | (exfalso;simp_all;done) | skip
  rw [LI]
  refine zO ?_ ?_
  · simp (disch:=omega) only [go_sem,aa]
  simp (disch:=omega) only [go_sem,aa]
  exact ag.done rfl rfl
def qO (w:AWorld):List ADeed→AWorld×List AReply
  | []=>(w,[])
  | d::l=>((qO (doW w d).1 l).1,(doW w d).2::(qO (doW w d).1 l).2)
structure RnInv (l:List ADeed) (v:Nat×AWorld×List AReply):Prop where
  k:v.1≤l.length
  f:v.2.2++(qO v.2.1 (l.drop v.1)).2=(qO dM l).2
  a:bx v.2.1 v.1
  d:v.2.1.deeds≤v.1
  d0:0≤v.2.1.deeds
  n:v.2.2.length=v.1
theorem jl {w:AWorld} {d:ADeed}:0≤w.deeds→0≤(doW w d).1.deeds∧(doW w d).1.deeds≤w.deeds+1:=by
  intro h0
  by_cases h:w.deeds < 300
  · rw [yh h];omega
  · rw [Bw (by omega)];simp only;omega
theorem RnInv.next {l:List ADeed} {v:Nat×AWorld×List AReply} (h:RnInv l v) (hk:v.1 < l.length) (hl:l.length≤300) {u:AWorld} {r:AReply} (hR:doW v.2.1 (l.getD v.1 default)=(u,r)):RnInv l (v.1+1,u,v.2.2++[r]):=by
  obtain ⟨h1,h2,h3,h4,h5,h6⟩:=h
  have hd:l.drop v.1=l.getD v.1 default::l.drop (v.1+1):=by
    rw [List.drop_eq_getElem_cons hk,List.getD_eq_getElem?_getD,List.getElem?_eq_getElem hk];rfl
  rw [hd,qO,hR] at h2
  have ha:=h3.does (by omega) (l.getD v.1 default)
  have hb:=jl (d:=l.getD v.1 default) h5
  rw [hR] at ha hb
  simp only at hb
  exact ⟨hk,by simpa using h2,ha,by simp only;omega,hb.1,by simp only [List.length_append,List.length_singleton];omega⟩
theorem RnInv.end {l:List ADeed} {v:Nat×AWorld×List AReply} (h:RnInv l v) (hk:¬ v.1 < l.length):v.2.2=(qO dM l).2:=by
  have h2:=h.f
  rw [List.drop_eq_nil_of_le (by omega),qO,List.append_nil] at h2
  exact h2
theorem qTo0:Pls [Plan.takes [0,1,2,3,4,5,6,7,8] .done]:=pls _
def ff:ADeed:=⟨1,0,0,⟨1,0,[],[],0,0⟩,0,0,0,false⟩
theorem F1:(doW dM a8).2.code=0∧(doW dM a8).1.leader=2∧(doW (doW dM a8).1 ff).2.code=0∧(doW (doW dM a8).1 ff).2.zxid=2147483649∧(doW (doW dM a8).1 ff).1.done.length=1∧(doW dM a8).1.deeds=1:=by decide +kernel
theorem I7 (w:AWorld) (d:ADeed) (r:AReply):ab Tryz.prog (inW w) 26 [.ptr 0 0,d.av,r.av] (cp (B true) (inW w)):=by
  unfold inW
  refine zJ Tryz.func26 Tryz.ntmps26 Tryz.results26 ?_;simp only [go_sem]
  (refine zW qw zn trivial (z1 ?_)<;>(repeat with_reducible intro hc))
  (refine zO ?_ ?_;(focus ((try simp (disch:=omega) only [go_sem,aa])<;>fail));simp (disch:=omega) only [go_sem,aa];refine ag.of_simp ?_ (ag.same ⟨rfl,rfl⟩);refine zV [0,1] rfl rfl rfl rfl ?_ ?_<;>simp (disch:=omega) only [go_sem,aa,true_or,or_true])
set_option maxHeartbeats 16000000 in
theorem JV:ab Tryz.prog [] 65 [] (ret (B true)):=by
  obtain ⟨q1,q2,q3,q4,q5,q6⟩:=F1
  have a1:=bx.start.does (by decide) a8
  have d1:ab Tryz.prog [.cells (wC (cw dM) 1),.rows 7 []] 17 [.ptr 0 0,ADeed.av ⟨5,0,0,⟨0,0,[],[],0,0⟩,0,0,0,false⟩] (cE (doW dM a8).1 (doW dM a8).2):=oc dM a8 0 bx.start (by decide) (Int.le_refl _) (by unfold a8 ADeed.wf ARequest.wf okI okS;decide) (by decide)
  unfold inW cE avN at d1
  generalize doW dM a8=R at *
  obtain ⟨u,r⟩:=R
  simp only at q1 q2 q3 q4 q5 q6 a1 d1
  have d2:ab Tryz.prog (inW u) 17 [.ptr 0 0,ADeed.av ⟨1,0,0,⟨1,0,[],[],0,0⟩,0,0,0,false⟩] (cE (doW u ff).1 (doW u ff).2):=oc u ff 1 a1 (by decide) (by omega) (by unfold ff ADeed.wf ARequest.wf okI okS;decide) (by decide)
  have a2:=a1.does (by decide) ff
  have l2:=a2.few
  unfold inW cE avN at d2
  generalize doW u ff=Q at *
  obtain ⟨u2,r2⟩:=Q
  simp only at q3 q4 q5 a2 l2 d2
  have hld:=lJ u
  have hak:=vK u2 (by omega)
  unfold inW at hld hak
  refine zJ Tryz.func65 Tryz.ntmps65 Tryz.results65 ?_;simp only [go_sem]
  (refine zW qw (zc Gv (z4 (ad [0,1] d1) (ad [0,2] d2) (ac [0,2] hld) (ac [0,4] hak))) (zx @q1 (zx @q2 (zx @q3 (zx @q4 @q5)))) (z1 ?_)<;>(repeat with_reducible intro hc))
  all_goals first | (exfalso;omega) | contradiction | (exfalso;simp_all;done) | skip
  all_goals exact zEe @q5
structure PlInv (l:List ADeed) (v:Nat×AWorld):Prop where
  k:v.1≤l.length
  m:v.1≤100
  w:v.2=dU dM (l.take v.1)
  a:bx v.2 v.1
  d0:0≤v.2.deeds
  d1:v.2.deeds≤v.1
theorem yl (w:AWorld) (l:List ADeed) (d:ADeed):dU w (l++[d])=(doW (dU w l) d).1:=by
  unfold dU
  rw [List.foldl_append];rfl
theorem PlInv.start (l:List ADeed):PlInv l (0,dM):=⟨Nat.zero_le _,Nat.zero_le _,by simp only [List.take_zero];rfl,bx.start,Int.le_refl _,Int.le_refl _⟩
theorem PlInv.next {l:List ADeed} {v:Nat×AWorld} (h:PlInv l v) (hk:v.1 < l.length) (hm:v.1 < 100) {u:AWorld} {r:AReply} (hR:doW v.2 (l.getD v.1 default)=(u,r)):PlInv l (v.1+1,u):=by
  obtain ⟨h1,h2,h3,h4,h5,h6⟩:=h
  have ha:=h4.does (by omega) (l.getD v.1 default)
  have hb:=jl (d:=l.getD v.1 default) h5
  have hw:=yl dM (l.take v.1) (l.getD v.1 default)
  rw [←cG l _ hk,←h3] at hw
  rw [hR] at ha hb hw
  simp only at hb hw
  exact ⟨hk,hm,hw.symm,ha,hb.1,by simp only;omega⟩
theorem PlInv.end {l:List ADeed} {v:Nat×AWorld} (h:PlInv l v) (hk:¬ (v.1 < l.length∧v.1 < 100)):v.2=dU dM (l.take 100):=by
  have h1:=h.k
  have h2:=h.m
  rw [h.w]
  by_cases e:v.1=100
  · rw [e]
  · rw [List.take_of_length_le (i:=v.1) (by omega),List.take_of_length_le (i:=100) (by omega)]
def BZ (g:FuncId):Prop:=∀ (w:AWorld) (d:ADeed) (n:Nat),bx w n→n < 100→0≤w.deeds→w.deeds≤n→d.wf→d.request.path.length≤1048576→ab Tryz.prog (inW (doW w d).1) g [.ptr 0 0,d.av,(doW w d).2.av] (cp (B true) (inW (doW w d).1))
set_option maxHeartbeats 16000000 in
theorem sE (g:FuncId) (hg:BZ g) (l:List ADeed) (hl:∀ d,d∈l→d.wf∧d.request.path.length≤1048576) (hll:l.length≤1048576):ab Tryz.prog [] 25 [.d (.sl 13 (l.map ADeed.row)),.d (.sc (.func (.func g) #[] #[]))] (cp (.tup [.ptr 0 0,B true]) (inW (dU dM (l.take 100)))):=by
  refine zJ Tryz.func25 Tryz.ntmps25 Tryz.results25 ?_;simp only [go_sem]
  (refine zW qw (z2 JV Gv) trivial (z1 ?_)<;>(repeat with_reducible intro hc))
  all_goals first | (exfalso;omega) | contradiction | (exfalso;simp_all;done) | skip
  refine AWP.loopB (ι:=Nat×AWorld) (fun v=>PlInv l v) (fun v=>l.length - v.1) [0,1,6] (fun v=>[(7,I v.1)]) (fun v=>[.cells (wC (cw v.2) 1),.rows 7 (v.2.done.map ATxn.row)]) (0,dM) ?_ ?_ ?_
  · exact PlInv.start l
  · simp only [go_sem];exact zFr [0,1] trivial
  intro v hv
  simp only [go_sem]
  have hvk:=hv.k
  have hvm:=hv.m
  have hvd:=hv.d1
  by_cases hk:v.1 < l.length∧v.1 < 100
  · have hdm:l.getD v.1 default∈l:=by rw [List.getD_eq_getElem?_getD,List.getElem?_eq_getElem hk.1];exact List.getElem_mem hk.1
    have hdo:=oc v.2 (l.getD v.1 default) v.1 hv.a (by omega) hv.d0 (hl _ hdm).1 (hl _ hdm).2
    have hlk:=hg v.2 (l.getD v.1 default) v.1 hv.a hk.2 hv.d0 hv.d1 (hl _ hdm).1 (hl _ hdm).2
    unfold inW cE avN at hdo
    unfold inW at hlk
    generalize hR:doW v.2 (l.getD v.1 default)=R at hdo hlk
    obtain ⟨u,r⟩:=R
    simp only at hdo hlk
    have hnx:=hv.next hk.1 hk.2 hR
    (refine zW qw (z3 qTo0 (ad [0,1] hdo) (ac [0,2] hlk)) trivial (z1 ?_)<;>(repeat with_reducible intro hc))
    all_goals first | (exfalso;omega) | contradiction | (exfalso;simp_all;done) | skip
    all_goals refine ⟨(v.1+1,u),hnx,by simp only;omega,?_⟩
    all_goals exact zFr [0,2] trivial
  · have he:=hv.end hk
    (refine zW qw zn trivial (z1 ?_)<;>(repeat with_reducible intro hc))
    all_goals first | (exfalso;omega) | contradiction | (exfalso;simp_all;done) | skip
    rw [←he]
    refine zO ?_ ?_
    · simp (disch:=omega) only [go_sem,aa]
    simp (disch:=omega) only [go_sem,aa]
    exact ag.done rfl rfl
theorem lm:BZ 26:=fun w d _ _ _ _ _ _ _=>I7 _ _ _
theorem bx.all:∀ (l:List ADeed) {w:AWorld} {n:Nat},bx w n→n+l.length≤1000→0≤w.deeds→w.deeds≤n→bx (dU w l) (n+l.length)∧0≤(dU w l).deeds∧(dU w l).deeds≤((n+l.length:Nat):Int)
  | [],w,n,h,_,h0,h1=>⟨h,h0,h1⟩
  | d::l,w,n,h,hn,h0,h1=>by
    rw [List.length_cons] at hn ⊢
    have hb:=jl (d:=d) h0
    have:=bx.all l (h.does (by omega) d) (by omega) hb.1 (by omega)
    rw [show n+(l.length+1)=n+1+l.length by omega]
    exact this
theorem sQ (l:List ADeed):∃ n,n≤100∧bx (dU dM (l.take 100)) n∧0≤(dU dM (l.take 100)).deeds∧(dU dM (l.take 100)).deeds≤n:=by
  have hl:(l.take 100).length≤100:=by rw [List.length_take];omega
  have:=bx.all (l.take 100) bx.start (by omega) (Int.le_refl _) (Int.le_refl _)
  rw [Nat.zero_add] at this
  exact ⟨_,hl,this⟩
structure TrInv (Y:List ATxn) (v:Nat×ATree):Prop where
  k:v.1≤Y.length
  p:bS t00 (Y.take v.1)=some v.2
theorem qTd0:Pls [Plan.takes [0,1,2,3,4,5,6,7,8,9,10,11,12,14,15] (.fork 13 (Plan.takes [16,17,18] .done) 16 (Plan.takes [13,17,18] .done))]:=pls _
set_option maxHeartbeats 16000000 in
theorem ED (w:AWorld) (d:ADeed) (r:AReply) (n:Nat) (ha:bx w n) (hn:n < 1000):ab Tryz.prog (inW w) 35 [.ptr 0 0,d.av,r.av] (cp (B true) (inW w)):=by
  unfold inW
  refine zJ Tryz.func35 Tryz.ntmps35 Tryz.results35 ?_;simp only [go_sem]
  (refine zW qw zn trivial (z1 ?_)<;>(repeat with_reducible intro hc))
  all_goals first | (exfalso;omega) | contradiction | skip
  refine AWP.loopB (ι:=Nat) (fun v=>v≤3) (fun v=>3 - v) [0] (fun v=>[(7,I v)]) (fun v=>[.cells (wC (cw w) 1),.rows 7 (w.done.map ATxn.row)]) 0 ?_ ?_ ?_
  · omega
  · simp only [go_sem];exact zFr [0,1] trivial
  intro v hv
  simp only [go_sem]
  by_cases hk:v < 3
  · obtain ⟨hs,_,_,_,_⟩:=ha.server hn hk
    obtain ⟨t1,t2⟩:bE (w.s v).disk.files=true∧((w.s v).up=true→(recoverD (w.s v).disk.files).1=(w.s v).peer.log∧(recoverD (w.s v).disk.files).2.2=0∧fI (w.s v).disk.files=(w.s v).peer.epoch):=by
      obtain ⟨⟨g,es,K,h1⟩,_,_⟩:=ha
      exact h1.disks hk
    have hsv:=fK w v hk hs v rfl
    unfold inW at hsv
    have hl7:=hs.2.2.1.2.2.1.1
    have hd1:=hs.2.1.1
    have hgd:=(good_d_c (w.s v).disk hs.2.1.1 hs.2.1.2).re (congrArg B t1)
    have hrc:=ly (w.s v).disk hs.2.1.1 hs.2.1.2
    have hep:=ug (w.s v).disk hs.2.1.1 hs.2.1.2
    have hsm:=qh (w.s v).peer.log hl7
    generalize w.s v=s at *
    by_cases hu:s.up=true
    · obtain ⟨t2,t3,t4⟩:=t2 hu
      rw [t4] at hep
      generalize recoverD s.disk.files=R at *
      obtain ⟨rl,rd,re⟩:=R
      simp only at t2 t3 hrc
      subst t2 t3
      (refine zW qw (zc qTd0 (zc (ac [0,1] hsv) (z4 hgd hrc hep hsm))) @hu (z2 ?_ ?_)<;>(repeat with_reducible intro hc))
      all_goals first | (exfalso;omega) | contradiction | skip
      all_goals refine ⟨v+1,by omega,by omega,?_⟩
      all_goals exact zFr [0,1] trivial
    · have hu2:s.up=false:=by simpa using hu
      (refine zW qw (z2 (ac [0,1] hsv) hgd) @hu2 (z1 ?_)<;>(repeat with_reducible intro hc))
      all_goals first | (exfalso;omega) | contradiction | skip
      all_goals refine ⟨v+1,by omega,by omega,?_⟩
      all_goals exact zFr [0,1] trivial
  · (refine zW qw zn trivial (z1 ?_)<;>(repeat with_reducible intro hc))
    all_goals first | (exfalso;omega) | contradiction | skip
    all_goals (refine zO ?_ ?_;(focus ((try simp (disch:=omega) only [go_sem,aa])<;>fail));simp (disch:=omega) only [go_sem,aa];refine ag.of_simp ?_ (ag.same ⟨rfl,rfl⟩);refine zV [0,1] rfl rfl rfl rfl ?_ ?_<;>simp (disch:=omega) only [go_sem,aa,true_or,or_true])
theorem yt:BZ 35:=fun w d n ha hn _ _ _ _=>ED _ _ _ (n+1) (ha.does (by omega) d) (by omega)
set_option maxHeartbeats 16000000 in
theorem AN (l:List ADeed) (hl:∀ d,d∈l→d.wf∧d.request.path.length≤1048576) (hll:l.length≤1048576):ab Tryz.prog [] 7 [.d (.sl 13 (l.map ADeed.row))] (ret (B true)):=by
  have hp:=sE 35 yt l hl hll
  unfold inW at hp
  refine zJ Tryz.func7 Tryz.ntmps7 Tryz.results7 ?_;simp only [go_sem]
  (refine zW qw (z1 hp) trivial (z1 ?_)<;>(repeat with_reducible intro hc))
  all_goals first | (exfalso;omega) | contradiction | skip
  all_goals exact zEe trivial
theorem Ab (dss:List (List DV)) (h:fG T 6 Tryz.f7.params.toList dss) (hs:∀ cs,cs∈dss→∀ c,c∈cs→SmallD 1048576 c):ab Tryz.prog [] 7 (fT T Tryz.f7.params.toList dss) (fun v _=>v=B true):=by
  rw [Tryz.params7] at h ⊢
  simp only [List.toList_toArray,fG] at h
  obtain ⟨c0,d0,rfl,h0,rfl⟩:=h
  have s0:=hs c0 (by simp)
  obtain ⟨l,rfl,v_l,w_l⟩:=xA (m:=5) (e:=30) (sz:=13) (by_:=120) (f:=ADeed.row) (wf:=ADeed.wf) (by simp only [sM,oV]) (by simp only [oO,na]) (by simp only [oO,na]) (fun r hr=>eZ (m:=2) hr) h0
  have u_l:=s0
  simp only [List.toList_toArray,fT,vp,TI.agg_mk,sM,oV]
  exact (AN l (fun d hd=>⟨w_l d hd,((u_l (DV.sl 13 (l.map ADeed.row)) (by simp)).rows.2 _ (List.mem_map_of_mem hd) (DV.str d.request.path) (by simp [ADeed.row])).len⟩) (by simpa using (u_l (DV.sl 13 (l.map ADeed.row)) (by simp)).rows.1)).mono fun _ _ h=>h.1
theorem Da {w:AWorld} {who:Nat} {x:ATxn} {hv:List Nat} (h:(js w who x hv).2.code=0):∃ D,(js w who x hv).1.done=D++[x]∧x.zxid=(js w who x hv).2.zxid:=by
  unfold js at h ⊢
  simp only at h ⊢
  generalize bn hv w []=R at h ⊢
  by_cases h1:R.2.2≠0
  · rw [if_pos h1] at h;exact absurd h h1
  rw [if_neg h1] at h ⊢
  generalize eP ((ew { R.1 with done:=R.1.done++[x] } R.2.1).c who) x.zxid=Q at h ⊢
  by_cases h2:Q.2≠0
  · rw [if_pos h2] at h;exact absurd h h2
  rw [if_neg h2]
  exact ⟨R.1.done,rfl,rfl⟩
theorem As {w:AWorld} {d:ADeed} (h:(dg w d).2.code=0):∃ D x,(dg w d).1.done=D++[x]∧x.zxid=(dg w d).2.zxid:=by
  unfold dg at h ⊢
  by_cases h1:d.client < 0∨16≤d.client
  · rw [if_pos h1] at h;exact absurd h (by decide:¬ (3:Int)=0)
  rw [if_neg h1] at h ⊢
  by_cases h2:w.leader < 0
  · rw [if_pos h2] at h;exact absurd h (by decide:¬ (14:Int)=0)
  rw [if_neg h2] at h ⊢
  by_cases h3:(dC (w.s w.leader.toNat).peer).2≠0
  · rw [if_pos h3] at h;exact absurd h h3
  rw [if_neg h3] at h ⊢
  simp only at h ⊢
  generalize cA (w.s w.leader.toNat).tree (dC (w.s w.leader.toNat).peer).1 (ma w d)=p at h ⊢
  by_cases h4:p.2≠0
  · rw [if_pos h4] at h;exact absurd h h4
  rw [if_neg h4] at h ⊢
  generalize bT p.1 w.leader d.lost d.slow [0,1,2] w []=r at h ⊢
  by_cases h5:r.2.2≠0
  · rw [if_pos h5] at h;exact absurd h h5
  rw [if_neg h5] at h ⊢
  by_cases h6:r.2.1.length < 2
  · rw [if_pos h6] at h;exact absurd h (by decide:¬ (16:Int)=0)
  rw [if_neg h6] at h ⊢
  obtain ⟨D,e1,e2⟩:=Da h
  exact ⟨D,_,e1,e2⟩
theorem KS {w:AWorld} {d:ADeed} (hk:d.kind=1) (h:(doW w d).2.code=0):∃ D x,(doW w d).1.done=D++[x]∧x.zxid=(doW w d).2.zxid:=by
  unfold doW at h ⊢
  by_cases h1:300≤w.deeds
  · rw [if_pos h1] at h;exact absurd h (by decide:¬ (6:Int)=0)
  rw [if_neg h1] at h ⊢
  unfold lX at h ⊢
  rw [if_pos hk] at h ⊢
  exact As h
theorem wF (l log:List ATxn) (h:l.Sublist log) (hb:log.length≤100000):ab Tryz.prog [] 29 [.d (.sl 7 (l.map ATxn.row)),.d (.sl 7 (log.map ATxn.row))] (ret (B true)):=by
  have hl:=h.length_le
  have ha:=Lx h
  refine zJ Tryz.func29 Tryz.ntmps29 Tryz.results29 ?_;simp only [go_sem]
  (refine zW qw zn trivial (z1 ?_)<;>(repeat with_reducible intro hc))
  refine AWP.loopS (ι:=Nat) (fun i=>i≤log.length) (fun i=>log.length - i) [0,1] (fun i=>[(6,I i),(5,I (wN l log i))]) 0 ?_ (by simp (disch:=omega) only [go_sem,aa,wN]) ?_
  · omega
  intro i hi
  simp only [go_sem]
  have hw:=G7 l log i
  by_cases hg:i < log.length∧wN l log i < l.length
  · obtain ⟨g1,g2⟩:=hg
    have hr1:∀ z,List.getD (log.map ATxn.row) i z=(log.getD i default).row:=fun z=>ATxn.rgetD log i z g1
    have hr2:∀ z,List.getD (l.map ATxn.row) (wN l log i) z=(l.getD (wN l log i) default).row:=fun z=>ATxn.rgetD l _ z g2
    by_cases he:log.getD i default=l.getD (wN l log i) default
    · have hw1:wN l log (i+1)=wN l log i+1:=by rw [wN,if_pos ⟨g2,he⟩]
      (refine zW qw zn (zx @hr1 (zx @hr2 @he)) (z1 ?_)<;>(repeat with_reducible intro hc))
      all_goals first | (exfalso;omega) | contradiction | skip
      all_goals refine ⟨i+1,by omega,by omega,?_⟩
      all_goals exact zSm @hw1
    · have hw1:wN l log (i+1)=wN l log i:=by rw [wN,if_neg (fun h=>he h.2)]
      (refine zW qw zn (zx @hr1 @hr2) (z2 ?_ ?_)<;>(repeat with_reducible intro hc))
      all_goals first | (exfalso;omega) | contradiction | skip
      all_goals refine ⟨i+1,by omega,by omega,?_⟩
      all_goals exact zSm @hw1
  · have e:wN l log i=l.length:=by
      by_cases g1:i < log.length
      · omega
      · rw [show i=log.length by omega,ha]
    (refine zW qw zn @e (z1 ?_)<;>(repeat with_reducible intro hc))
    all_goals first | (exfalso;omega) | contradiction | skip
    all_goals exact zEe @e
set_option maxHeartbeats 16000000 in
theorem Fz (w:AWorld) (d:ADeed) (r:AReply) (n:Nat) (ha:bx w n) (hn:n < 1000) (hr:d.kind=1→r.code=0→∃ D x,w.done=D++[x]∧x.zxid=r.zxid):ab Tryz.prog (inW w) 39 [.ptr 0 0,d.av,r.av] (cp (B true) (inW w)):=by
  have hfew:=ha.few
  obtain ⟨p1,p2⟩:List.Pairwise (fun a b:ATxn=>a.zxid < b.zxid) w.done∧(0≤w.leader→w.leader < 3∧w.done.Sublist (w.s w.leader.toNat).peer.log):=by
    obtain ⟨⟨g,es,K,h1⟩,_,_⟩:=ha
    exact h1.order
  have hak:=vK w (by omega)
  have hld:=lJ w
  unfold inW at hak hld ⊢
  refine zJ Tryz.func39 Tryz.ntmps39 Tryz.results39 ?_;simp only [go_sem]
  (refine zW qw (z1 (ac [0,1] hak)) trivial (z1 ?_)<;>(repeat with_reducible intro hc))
  all_goals first | (exfalso;omega) | contradiction | skip
  refine AWP.loopB (ι:=Nat) (fun v=>1≤v∧v≤w.done.length+1) (fun v=>w.done.length+1 - v) [0,4,5,7] (fun v=>[(8,I v)]) (fun v=>[.cells (wC (cw w) 1),.rows 7 (w.done.map ATxn.row),.cells [I d.kind,I d.client,I d.server,I d.request.op,I d.request.session,S d.request.path,S d.request.data,I d.request.version,I d.request.flags,I d.lost,I d.slow,I d.keep,B d.watch],.cells [I r.code,I r.zxid,S r.path,S r.data,I r.stat.czxid,I r.stat.mzxid,I r.stat.pzxid,I r.stat.version,I r.stat.cversion,I r.stat.owner,I r.stat.kids,.d (.sl 3 (r.notes.map ANote.row))]]) 1 ?_ ?_ ?_
  · omega
  · simp only [go_sem];exact zFr [0,1,2,3] trivial
  intro v hv
  simp only [go_sem]
  by_cases hk:v < w.done.length
  · have hlt:(w.done.getD (v - 1) default).zxid < (w.done.getD v default).zxid:=by
      have:=List.pairwise_iff_getElem.1 p1 (v - 1) v (by omega) hk (by omega)
      rwa [List.getD_eq_getElem?_getD,List.getD_eq_getElem?_getD,List.getElem?_eq_getElem hk,List.getElem?_eq_getElem (show v - 1 < w.done.length by omega)]
    have hr1:∀ z,List.getD (w.done.map ATxn.row) v z=(w.done.getD v default).row:=fun z=>ATxn.rgetD w.done v z hk
    have hr2:∀ z,List.getD (w.done.map ATxn.row) (v - 1) z=(w.done.getD (v - 1) default).row:=fun z=>ATxn.rgetD w.done (v - 1) z (by omega)
    have hv1:((v:Int) - 1).toNat=v - 1:=by omega
    have hv2:(v:Int) - 1=((v - 1:Nat):Int):=by omega
    (refine zW qw zn (zx @hr1 (zx @hr2 @hv2)) (z1 ?_)<;>(repeat with_reducible intro hc))
    all_goals first | (exfalso;omega) | contradiction | skip
    all_goals refine ⟨v+1,by omega,by omega,?_⟩
    all_goals exact zFr [0,1,2,3] trivial
  · by_cases hl0:w.leader < 0
    · by_cases hq:d.kind=1∧r.code=0
      · obtain ⟨q1,q2⟩:=hq
        obtain ⟨D,x,e1,e2⟩:=hr q1 q2
        have hlen:w.done.length≠0:=by rw [e1];simp
        have hlv:((w.done.length:Int) - 1)=((w.done.length - 1:Nat):Int):=by omega
        have hrl:∀ z,List.getD (w.done.map ATxn.row) (w.done.length - 1) z=x.row:=fun z=>by
          rw [ATxn.rgetD w.done _ z (by omega)]
          rw [e1,List.length_append,List.length_singleton,Nat.add_sub_cancel,List.getD_eq_getElem?_getD,List.getElem?_append_right (Nat.le_refl _),Nat.sub_self];rfl
        (refine zW qw (z1 (ac [0,1] hld)) (zx @q1 (zx @q2 (zx @hlv (zx @hrl (zx @e2 (zx @hlen @hl0)))))) (z1 ?_)<;>(repeat with_reducible intro hc))
        all_goals first | (exfalso;omega) | contradiction | skip
        all_goals (refine zO ?_ ?_;(focus ((try simp (disch:=omega) only [go_sem,aa])<;>fail));simp (disch:=omega) only [go_sem,aa];refine ag.of_simp ?_ (ag.same ⟨rfl,rfl⟩);refine zV [0,1] rfl rfl rfl rfl ?_ ?_<;>simp (disch:=omega) only [go_sem,aa,true_or,or_true])
      · (refine zW qw (z1 (ac [0,1] hld)) @hl0 (z1 ?_)<;>(repeat with_reducible intro hc))
        all_goals first | (exfalso;omega) | contradiction | (exfalso;simp_all;done) | skip
        all_goals (refine zO ?_ ?_;(focus ((try simp (disch:=omega) only [go_sem,aa])<;>fail));simp (disch:=omega) only [go_sem,aa];refine ag.of_simp ?_ (ag.same ⟨rfl,rfl⟩);refine zV [0,1] rfl rfl rfl rfl ?_ ?_<;>simp (disch:=omega) only [go_sem,aa,true_or,or_true])
    · obtain ⟨p3,p4⟩:=p2 (by omega)
      have hlt:w.leader.toNat < 3:=by omega
      have hs:=(ha.server hn hlt).1
      have hsv:=fK w w.leader.toNat hlt hs w.leader (by omega)
      unfold inW at hsv
      have hwi:=wF w.done (w.s w.leader.toNat).peer.log p4 (by have:=ha.log hlt;omega)
      generalize w.s w.leader.toNat=s at *
      by_cases hq:d.kind=1∧r.code=0
      · obtain ⟨q1,q2⟩:=hq
        obtain ⟨D,x,e1,e2⟩:=hr q1 q2
        have hlen:w.done.length≠0:=by rw [e1];simp
        have hlv:((w.done.length:Int) - 1)=((w.done.length - 1:Nat):Int):=by omega
        have hrl:∀ z,List.getD (w.done.map ATxn.row) (w.done.length - 1) z=x.row:=fun z=>by
          rw [ATxn.rgetD w.done _ z (by omega)]
          rw [e1,List.length_append,List.length_singleton,Nat.add_sub_cancel,List.getD_eq_getElem?_getD,List.getElem?_append_right (Nat.le_refl _),Nat.sub_self];rfl
        (refine zW qw (z3 (ac [0,1] hld) (ac [0,1] hsv) hwi) (zx @q1 (zx @q2 (zx @hlv (zx @hrl (zx @e2 @hlen))))) (z1 ?_)<;>(repeat with_reducible intro hc))
        all_goals first | (exfalso;omega) | contradiction | skip
        all_goals (refine zO ?_ ?_;(focus ((try simp (disch:=omega) only [go_sem,aa])<;>fail));simp (disch:=omega) only [go_sem,aa];refine ag.of_simp ?_ (ag.same ⟨rfl,rfl⟩);refine zV [0,1] rfl rfl rfl rfl ?_ ?_<;>simp (disch:=omega) only [go_sem,aa,true_or,or_true])
      · (refine zW qw (z3 (ac [0,1] hld) (ac [0,1] hsv) hwi) trivial (z1 ?_)<;>(repeat with_reducible intro hc))
        all_goals first | (exfalso;omega) | contradiction | (exfalso;simp_all;done) | skip
        all_goals (refine zO ?_ ?_;(focus ((try simp (disch:=omega) only [go_sem,aa])<;>fail));simp (disch:=omega) only [go_sem,aa];refine ag.of_simp ?_ (ag.same ⟨rfl,rfl⟩);refine zV [0,1] rfl rfl rfl rfl ?_ ?_<;>simp (disch:=omega) only [go_sem,aa,true_or,or_true])
theorem xU:BZ 39:=fun w d n ha hn _ _ _ _=>Fz _ _ _ (n+1) (ha.does (by omega) d) (by omega) (fun h1 h2=>KS h1 h2)
set_option maxHeartbeats 16000000 in
theorem zv (l:List ADeed) (hl:∀ d,d∈l→d.wf∧d.request.path.length≤1048576) (hll:l.length≤1048576):ab Tryz.prog [] 8 [.d (.sl 13 (l.map ADeed.row))] (ret (B true)):=by
  have hp:=sE 39 xU l hl hll
  unfold inW at hp
  refine zJ Tryz.func8 Tryz.ntmps8 Tryz.results8 ?_;simp only [go_sem]
  (refine zW qw (z1 hp) trivial (z1 ?_)<;>(repeat with_reducible intro hc))
  all_goals first | (exfalso;omega) | contradiction | skip
  all_goals exact zEe trivial
theorem yK (dss:List (List DV)) (h:fG T 6 Tryz.f8.params.toList dss) (hs:∀ cs,cs∈dss→∀ c,c∈cs→SmallD 1048576 c):ab Tryz.prog [] 8 (fT T Tryz.f8.params.toList dss) (fun v _=>v=B true):=by
  rw [Tryz.params8] at h ⊢
  simp only [List.toList_toArray,fG] at h
  obtain ⟨c0,d0,rfl,h0,rfl⟩:=h
  have s0:=hs c0 (by simp)
  obtain ⟨l,rfl,v_l,w_l⟩:=xA (m:=5) (e:=30) (sz:=13) (by_:=120) (f:=ADeed.row) (wf:=ADeed.wf) (by simp only [sM,oV]) (by simp only [oO,na]) (by simp only [oO,na]) (fun r hr=>eZ (m:=2) hr) h0
  have u_l:=s0
  simp only [List.toList_toArray,fT,vp,TI.agg_mk,sM,oV]
  exact (zv l (fun d hd=>⟨w_l d hd,((u_l (DV.sl 13 (l.map ADeed.row)) (by simp)).rows.2 _ (List.mem_map_of_mem hd) (DV.str d.request.path) (by simp [ADeed.row])).len⟩) (by simpa using (u_l (DV.sl 13 (l.map ADeed.row)) (by simp)).rows.1)).mono fun _ _ h=>h.1
theorem qTk0:Pls [Plan.takes [0,2] (.fork 1 (Plan.takes [3,4,5,6,7,8,9,10,11,12,13,14,15,16] .done) 3 (Plan.takes [4,1,5,6,7,8,9,10,11,12,13,14,15,16] .done))]:=pls _
theorem qTk1:Pls [Plan.takes [0,1,2,3,4,5,6,7,8,9,10,11,12,13,14,15,16,17,18,20,21] (.fork 19 (Plan.takes [22,23,24,25,26,27] .done) 22 (Plan.takes [19,23,24,25,26,27] .done))]:=pls _
structure DnInv (keep:Int) (n:Nat) (F:AWorld×Bool) (v:Nat×AWorld):Prop where
  k:v.1≤3
  f:eB keep ([0,1,2].drop v.1) v.2=F
  a:bx v.2 (n+v.1)
  d0:0≤v.2.deeds
structure UpInv (n:Nat) (F:AWorld×Bool) (v:Nat×AWorld):Prop where
  k:v.1≤3
  f:kz ([0,1,2].drop v.1) v.2=F
  a:bx v.2 (n+v.1)
  d0:0≤v.2.deeds
theorem dr3 {k:Nat} (h:k < 3):[0,1,2].drop k=k::[0,1,2].drop (k+1):=by
  rcases k with _ | _ | _ | k<;>first | rfl | omega
theorem DnInv.no {keep:Int} {n:Nat} {F:AWorld×Bool} {v:Nat×AWorld} (h:DnInv keep n F v) (hk:v.1 < 3) (hu:(v.2.s v.1).up=false):DnInv keep n F (v.1+1,v.2):=by
  obtain ⟨h1,h2,⟨h3,h4,h5⟩,h6⟩:=h
  rw [dr3 hk,eB,if_neg (by rw [hu];decide)] at h2
  obtain ⟨g,es,K,h3⟩:=h3
  refine ⟨hk,h2,⟨⟨g,es,K,h3.mono (by simp only;omega)⟩,h4,h5.mono (by simp only;omega)⟩,h6⟩
theorem DnInv.yes {keep:Int} {n:Nat} {F:AWorld×Bool} {v:Nat×AWorld} (h:DnInv keep n F v) (hF:F.2=true) (hn:n < 900) (hk:v.1 < 3) (hu:(v.2.s v.1).up=true) {u:AWorld} {r:AReply} (hR:doW v.2 (cN v.1 keep)=(u,r)):r.code=0∧DnInv keep n F (v.1+1,u):=by
  obtain ⟨h1,h2,h3,h6⟩:=h
  rw [dr3 hk,eB,if_pos hu,hR] at h2
  have hb:=jl (d:=cN v.1 keep) h6
  have ha:=h3.does (by omega) (cN v.1 keep)
  rw [hR] at hb ha
  simp only at h2 hb ha
  by_cases hc:r.code=0
  · rw [if_pos hc] at h2
    exact ⟨hc,hk,h2,ha,hb.1⟩
  · rw [if_neg hc] at h2
    rw [←h2] at hF
    cases hF
theorem DnInv.end {keep:Int} {n:Nat} {F:AWorld×Bool} {v:Nat×AWorld} (h:DnInv keep n F v) (hk:¬ v.1 < 3):F=(v.2,true):=by
  have h1:=h.k
  have h2:=h.f
  rw [show v.1=3 by omega] at h2
  exact h2.symm
theorem UpInv.no {n:Nat} {F:AWorld×Bool} {v:Nat×AWorld} (h:UpInv n F v) (hk:v.1 < 3) (hu:(v.2.s v.1).up=true):UpInv n F (v.1+1,v.2):=by
  obtain ⟨h1,h2,⟨h3,h4,h5⟩,h6⟩:=h
  rw [dr3 hk,kz,if_neg (by rw [hu];decide)] at h2
  obtain ⟨g,es,K,h3⟩:=h3
  refine ⟨hk,h2,⟨⟨g,es,K,h3.mono (by simp only;omega)⟩,h4,h5.mono (by simp only;omega)⟩,h6⟩
theorem UpInv.yes {n:Nat} {F:AWorld×Bool} {v:Nat×AWorld} (h:UpInv n F v) (hF:F.2=true) (hn:n < 900) (hk:v.1 < 3) (hu:(v.2.s v.1).up=false) {u:AWorld} {r:AReply} (hR:doW v.2 (gm v.1)=(u,r)):r.code=0∧UpInv n F (v.1+1,u):=by
  obtain ⟨h1,h2,h3,h6⟩:=h
  rw [dr3 hk,kz,if_pos hu,hR] at h2
  have hb:=jl (d:=gm v.1) h6
  have ha:=h3.does (by omega) (gm v.1)
  rw [hR] at hb ha
  simp only at h2 hb ha
  by_cases hc:r.code=0
  · rw [if_pos hc] at h2
    exact ⟨hc,hk,h2,ha,hb.1⟩
  · rw [if_neg hc] at h2
    rw [←h2] at hF
    cases hF
theorem UpInv.end {n:Nat} {F:AWorld×Bool} {v:Nat×AWorld} (h:UpInv n F v) (hk:¬ v.1 < 3):F=(v.2,true):=by
  have h1:=h.k
  have h2:=h.f
  rw [show v.1=3 by omega] at h2
  exact h2.symm
theorem bx.downs {keep:Int}:∀ (r:List Nat) {w:AWorld} {n:Nat},bx w n→n+r.length < 1000→∃ m,m≤n+r.length∧bx (eB keep r w).1 m
  | [],w,n,h,_=>⟨n,Nat.le_refl _,h⟩
  | i :: r,w,n,h,hn=>by
    rw [List.length_cons] at hn ⊢
    rw [eB]
    split
    · split
      · obtain ⟨m,hm,hh⟩:=bx.downs r (h.does (by omega) (cN i keep)) (by omega)
        exact ⟨m,by omega,hh⟩
      · exact ⟨n+1,by omega,h.does (by omega) _⟩
    · obtain ⟨m,hm,hh⟩:=bx.downs r h (by omega)
      exact ⟨m,by omega,hh⟩
theorem bx.ups:∀ (r:List Nat) {w:AWorld} {n:Nat},bx w n→n+r.length < 1000→∃ m,m≤n+r.length∧bx (kz r w).1 m
  | [],w,n,h,_=>⟨n,Nat.le_refl _,h⟩
  | i :: r,w,n,h,hn=>by
    rw [List.length_cons] at hn ⊢
    rw [kz]
    split
    · split
      · obtain ⟨m,hm,hh⟩:=bx.ups r (h.does (by omega) (gm i)) (by omega)
        exact ⟨m,by omega,hh⟩
      · exact ⟨n+1,by omega,h.does (by omega) _⟩
    · obtain ⟨m,hm,hh⟩:=bx.ups r h (by omega)
      exact ⟨m,by omega,hh⟩
theorem vh {kind i keep:Int} (h1:okI kind) (h2:okI i) (h3:okI keep):ADeed.wf ⟨kind,0,i,default,0,0,keep,false⟩:=by
  have z:okI 0:=by unfold okI;decide
  have y:okS []:=by unfold okS;decide
  exact ⟨h1,z,h2,⟨z,z,y,y,z,z⟩,z,z,h3,trivial⟩
theorem ag.worldX {hp:List ABlk} {w:AWorld} {v:CW} {x y:AV} (p:Nat) (hv:v=cw w) (h0:hp[0]?=some (.cells (wC v p))) (h1:hp[p]?=some (.rows 7 (w.done.map ATxn.row))) (hp0:p≠0) (hn:bV x) (hc:cY x y) :
    ag 2 hp x (cp y [.cells (wC (cw w) 2),.dead,.rows 7 (w.done.map ATxn.row)]):=by
  subst hv
  have hl0:0 < hp.length:=(List.getElem?_eq_some_iff.1 h0).1
  have hlp:p < hp.length:=(List.getElem?_eq_some_iff.1 h1).1
  have s1:=aF.moveOwnC 0 82 (np:=2) (nt:=1) (env:=[(0,x)]) h0 (yv (cw w) p) h1 (by simp) hp0
  rw [nU] at s1
  have hren:=jr (mAt [0,1,hp.length] ((hp.set p ABlk.dead).set 0 (ABlk.cells (wC (cw w) hp.length))++[ABlk.rows 7 (w.done.map ATxn.row)]).length) x hn
  refine ag.of_simp (v':=x) (hp':=[.cells (wC (cw w) 2),.dead,.rows 7 (w.done.map ATxn.row)]) (aF.trans s1 (aF.frame [0,1,hp.length] rfl (fun i hi=>?_) ?_ (fun k hk=>?_) ?_ ?_)) (ag.coe hc (ag.same ⟨rfl,rfl⟩))
  · simp only [List.mem_cons,List.not_mem_nil,or_false] at hi
    simp only [List.length_append,List.length_set,List.length_cons,List.length_nil]
    omega
  · simp only [List.nodup_cons,List.mem_cons,List.not_mem_nil,or_false,not_or,not_false_eq_true,List.nodup_nil,and_true]
    omega
  · rcases k with _ | _ | k
    · rfl
    · rfl
    · omega
  · refine ⟨⟨?_,ro (Nat.zero_le _) _ hren.2⟩,trivial⟩
    simp only [bR,if_true]
    exact hren.1.symm
  · refine ⟨.inr ⟨?_,?_⟩,.inl rfl,.inr ⟨?_,trivial⟩,trivial⟩
    · show (((hp.set p ABlk.dead).set 0 (ABlk.cells (wC (cw w) hp.length))++[ABlk.rows 7 (w.done.map ATxn.row)])[0]?)=some (ABlk.cells (renL _ (wC (cw w) 2)))
      rw [sI,List.getElem?_append_left (by simp;omega),List.getElem?_set_self (by simp;omega)]
      rfl
    · exact BS _ _ _ (show 2 < 3 by decide)
    · show (((hp.set p ABlk.dead).set 0 (ABlk.cells (wC (cw w) hp.length))++[ABlk.rows 7 (w.done.map ATxn.row)])[hp.length]?)=_
      rw [List.getElem?_append_right (by simp)]
      simp [renB]
set_option maxHeartbeats 16000000 in
theorem Ht (w:AWorld) (n:Nat) (ha:bx w n) (hn:n < 900) (h0:0≤w.deeds) {b:AWorld×Bool} {e:AWorld×AReply} (hb:b=kz [0,1,2] w) (hb2:b.2=true) (he:e=doW b.1 a8) (he2:e.2.code=0) (he3:0≤e.1.leader∧e.1.leader < 3) :
    ab Tryz.prog (inW w) 66 [.ptr 0 0] (cp (.tup [I e.1.leader,B true]) [.cells (wC (cw e.1) 2),.dead,.rows 7 (e.1.done.map ATxn.row)]):=by
  unfold inW
  refine zJ Tryz.func66 Tryz.ntmps66 Tryz.results66 ?_;simp only [go_sem]
  (refine zW qw zn trivial (z1 ?_)<;>(repeat with_reducible intro hc))
  all_goals first | (exfalso;omega) | contradiction | skip
  refine AWP.weaken (aF.moveOwnC 0 82 (by rfl) (yv (cw w) 1) (by rfl) (by simp) (by decide)) ?_
  simp only [go_sem,nU]
  refine AWP.loopB (ι:=Nat×AWorld) (fun v=>UpInv n b v) (fun v=>3 - v.1) [0] (fun v=>[(4,I v.1)]) (fun v=>[.cells (wC (cw v.2) 2),.dead,.rows 7 (v.2.done.map ATxn.row)]) (0,w) ?_ ?_ ?_
  · exact ⟨Nat.zero_le _,hb.symm,ha,h0⟩
  · simp only [go_sem];exact zFr [0,1,2] trivial
  intro v hv
  simp only [go_sem]
  have hvk:=hv.k
  by_cases hk:v.1 < 3
  · have hs:=(hv.a.server (by omega) hk).1
    have hsv:=fK v.2 v.1 hk hs v.1 rfl
    unfold inW at hsv
    by_cases hu:(v.2.s v.1).up=true
    · have hno:=hv.no hk hu
      (repeat' first
    | (with_reducible refine AR.f ?_)
    | refine ap (by decide) ?_
    | (with_reducible refine AWP.cond rfl ?_ ?_<;>intro hc<;>(try simp only [hcs,beq_iff_eq,ge_iff_le,gt_iff_lt] at hc))
    | ((first | ((first | (with_reducible first | refine zR ?_ | refine zQ (by decide +kernel) ?_ | refine zD (by decide +kernel) ?_ | refine zE (by decide +kernel) ?_ | refine zG (by decide +kernel) ?_));intro K hK) | (refine acallH_at [0,2] (hsv) ?_ ?_ ?_;(focus ((try simp (disch:=omega) only [inj,List.cons.injEq,and_self,List.nodup_cons,List.not_mem_nil,List.mem_cons,not_false_eq_true,List.nodup_nil,go_sem,aa])<;>(try omega)<;>fail));(focus ((try simp (disch:=omega) only [inj,List.cons.injEq,and_self,List.nodup_cons,List.not_mem_nil,List.mem_cons,not_false_eq_true,List.nodup_nil,go_sem,aa])<;>(try omega)<;>(try decide)<;>fail))) | ((first | (with_reducible refine aunder_i ?_ ?_<;>intro hg) | with_reducible intro hg)<;>(first | (exfalso;simp at hg;done) | (have hg':=hg;(try simp only [hcs,beq_iff_eq,ge_iff_le,gt_iff_lt] at hg');(try simp only [hg])))))<;>(try simp (disch:=omega) only [go_sem,aa])<;>(repeat' with_reducible refine And.intro ?_ ?_)<;>(try (with_reducible refine hK _ ?_;clear hK K)))
    | omega)
      all_goals first | (exfalso;omega) | contradiction | (exfalso;simp [hu] at hg;done) | skip
      all_goals refine ⟨(v.1+1,v.2),hno,by simp only;omega,?_⟩
      all_goals exact zFr [0,1,2] trivial
    · have hu2:(v.2.s v.1).up=false:=by simpa using hu
      have hdo:=oc v.2 (gm v.1) (n+v.1) hv.a (by omega) hv.d0 (vh (by unfold okI;decide) (by unfold okI;omega) (by unfold okI;decide)) (Nat.zero_le _)
      have hys:=fun u r=>@UpInv.yes n b v hv hb2 hn hk hu2 u r
      unfold inW cE avN gm at hdo
      unfold gm at hys
      generalize doW v.2 ⟨4,0,(v.1:Int),default,0,0,0,false⟩=R at hdo hys
      obtain ⟨u,r⟩:=R
      obtain ⟨hc0,hnx⟩:=hys u r rfl
      simp only at hdo
      (refine zW qw (z2 (ac [0,2] hsv) (ac [0,2] hdo)) (zx @hu2 (zx @hc0 dfl)) (z1 ?_)<;>(repeat with_reducible intro hc))
      all_goals first | (exfalso;omega) | contradiction | skip
      all_goals refine ⟨(v.1+1,u),hnx,by simp only;omega,?_⟩
      all_goals exact zFr [0,1,3] trivial
  · have hbe:=hv.end hk
    have hdo:=oc v.2 a8 (n+v.1) hv.a (by omega) hv.d0 (vh (by unfold okI;decide) (by unfold okI;decide) (by unfold okI;decide)) (Nat.zero_le _)
    have hae:=hv.a.does (by omega) a8
    rw [hbe] at he
    simp only at he
    rw [←he] at hdo
    unfold inW cE avN a8 at hdo
    obtain ⟨u,r⟩:=e
    simp only at hdo he2 he3 ⊢
    have hld:=lJ u
    unfold inW at hld
    (refine zW qw (z3 qTk0 (ac [0,2] hdo) (ac [0,3] hld)) (zx dfl @he2) (z2 ?_ ?_)<;>(repeat with_reducible intro hc))
    all_goals first | (exfalso;omega) | contradiction | skip
    all_goals (
      refine zO ?_ ?_
      · simp (disch:=omega) only [go_sem,aa]
      simp (disch:=omega) only [go_sem,aa]
      exact ag.worldX 3 rfl rfl rfl (by decide) (by simp [bV,cf]) (by simp (disch:=omega) only [go_sem,aa,decide_eq_true he3.2];first | done | exact lK _))
set_option maxHeartbeats 16000000 in
theorem JN (w:AWorld) (n:Nat) (keep:Int) (ha:bx w n) (hn:n < 800) (h0:0≤w.deeds) (hkp:0≤keep∧keep < 300) {a b:AWorld×Bool} {e:AWorld×AReply} (hA:a=eB keep [0,1,2] w) (hA2:a.2=true) (hb:b=kz [0,1,2] a.1) (hb2:b.2=true) (he:e=doW b.1 a8) (he2:e.2.code=0) (he3:0≤e.1.leader∧e.1.leader < 3) :
    ab Tryz.prog (inW w) 27 [.ptr 0 0,I keep] (cp (.tup [I e.1.leader,B true]) [.cells (wC (cw e.1) 2),.dead,.rows 7 (e.1.done.map ATxn.row)]):=by
  unfold inW
  refine zJ Tryz.func27 Tryz.ntmps27 Tryz.results27 ?_;simp only [go_sem]
  (refine zW qw zn trivial (z1 ?_)<;>(repeat with_reducible intro hc))
  all_goals first | (exfalso;omega) | contradiction | skip
  refine AWP.weaken (aF.moveOwnC 0 82 (by rfl) (yv (cw w) 1) (by rfl) (by simp) (by decide)) ?_
  simp only [go_sem,nU]
  refine AWP.loopB (ι:=Nat×AWorld) (fun v=>DnInv keep n a v) (fun v=>3 - v.1) [0,1] (fun v=>[(6,I v.1)]) (fun v=>[.cells (wC (cw v.2) 2),.dead,.rows 7 (v.2.done.map ATxn.row)]) (0,w) ?_ ?_ ?_
  · exact ⟨Nat.zero_le _,hA.symm,ha,h0⟩
  · simp only [go_sem];exact zFr [0,1,2] trivial
  intro v hv
  simp only [go_sem]
  have hvk:=hv.k
  by_cases hk:v.1 < 3
  · have hs:=(hv.a.server (by omega) hk).1
    have hsv:=fK v.2 v.1 hk hs v.1 rfl
    unfold inW at hsv
    by_cases hu:(v.2.s v.1).up=true
    · have hdo:=oc v.2 (cN v.1 keep) (n+v.1) hv.a (by omega) hv.d0 (vh (by unfold okI;decide) (by unfold okI;omega) (by unfold okI;omega)) (Nat.zero_le _)
      have hys:=fun u r=>@DnInv.yes keep n a v hv hA2 (by omega) hk hu u r
      unfold inW cE avN cN at hdo
      unfold cN at hys
      generalize doW v.2 ⟨3,0,(v.1:Int),default,0,0,keep,false⟩=R at hdo hys
      obtain ⟨u,r⟩:=R
      obtain ⟨hc0,hnx⟩:=hys u r rfl
      simp only at hdo
      (refine zW qw (z2 (ac [0,2] hsv) (ac [0,2] hdo)) (zx @hu (zx @hc0 dfl)) (z1 ?_)<;>(repeat with_reducible intro hc))
      all_goals first | (exfalso;omega) | contradiction | skip
      all_goals refine ⟨(v.1+1,u),hnx,by simp only;omega,?_⟩
      all_goals exact zFr [0,1,3] trivial
    · have hu2:(v.2.s v.1).up=false:=by simpa using hu
      have hno:=hv.no hk hu2
      (refine zW qw (z1 (ac [0,2] hsv)) @hu2 (z1 ?_)<;>(repeat with_reducible intro hc))
      all_goals first | (exfalso;omega) | contradiction | skip
      all_goals refine ⟨(v.1+1,v.2),hno,by simp only;omega,?_⟩
      all_goals exact zFr [0,1,2] trivial
  · have hae:=hv.end hk
    have hch:=Ht v.2 (n+v.1) hv.a (by omega) hv.d0 (b:=b) (e:=e) (by rw [hb,hae]) hb2 he he2 he3
    unfold inW at hch
    (refine zW qw (z1 (ac [0,2] hch)) trivial (z1 ?_)<;>(repeat with_reducible intro hc))
    all_goals first | (exfalso;omega) | contradiction | skip
    all_goals (
      refine zO ?_ ?_
      · simp (disch:=omega) only [go_sem,aa]
      simp (disch:=omega) only [go_sem,aa]
      exact ag.worldX 3 rfl rfl rfl (by decide) (by simp [bV,cf]) (by simp (disch:=omega) only [go_sem,aa];first | done | exact lK _))
set_option maxHeartbeats 16000000 in
theorem CV (l:List ADeed) (keep:Int) (hl:∀ d,d∈l→d.wf∧d.request.path.length≤1048576) (hll:l.length≤1048576):ab Tryz.prog [] 5 [.d (.sl 13 (l.map ADeed.row)),I keep] (ret (B true)):=by
  have hp:=sE 26 lm l hl hll
  obtain ⟨n,hn,ha,hd0,hd1⟩:=sQ l
  generalize dU dM (l.take 100)=w at hp ha hd0 hd1
  have hpk:=Be keep 300 (by decide) (by decide)
  have hpr:=rJ keep (n:=300) (by decide)
  generalize lZ keep ((300:Nat):Int)=kp at hpk hpr
  have hpk:ab Tryz.prog [] 28 [I keep,I 300] (ret (I kp)):=hpk
  have hfw:=ha.few
  obtain ⟨a,rfa⟩:∃ a,a=eB kp [0,1,2] w:=⟨_,rfl⟩
  obtain ⟨b,rfb⟩:∃ b,b=kz [0,1,2] a.1:=⟨_,rfl⟩
  obtain ⟨e,rfe⟩:∃ e,e=doW b.1 a8:=⟨_,rfl⟩
  have hkept:=ha.1.elim fun g hg=>hg.elim fun es hes=>hes.elim fun K h=>h.kept (by omega) (by omega) hpr.1 rfa rfb rfe
  obtain ⟨k1,k2,k3,k4,k5,k6,k7⟩:=hkept
  have hfr:=JN w n kp ha (by omega) hd0 hpr rfa k1 rfb k2 rfe k3 ⟨k4,k5⟩
  obtain ⟨m1,hm1,hw1⟩:=bx.downs (keep:=kp) [0,1,2] ha (by simp only [List.length_cons,List.length_nil];omega)
  rw [←rfa] at hw1
  obtain ⟨m2,hm2,hw2⟩:=bx.ups [0,1,2] hw1 (by simp only [List.length_cons,List.length_nil] at hm1 ⊢;omega)
  rw [←rfb] at hw2
  simp only [List.length_cons,List.length_nil] at hm1 hm2
  have hae:=hw2.does (by omega) a8
  rw [←rfe] at hae
  have hak:=vK w (by omega)
  have hak2:=vK e.1 (by rw [k6];omega)
  have hsm:=qh w.done (by omega)
  unfold inW at hp hfr hak hak2
  rw [k6] at hfr hak2
  refine zJ Tryz.func5 Tryz.ntmps5 Tryz.results5 ?_;simp only [go_sem]
  (refine zW qw (z4 hp (ac [0,1] hak) hpk (ac [0,1] hfr)) trivial (z1 ?_)<;>(repeat with_reducible intro hc))
  all_goals first | (exfalso;omega) | contradiction | skip
  refine AWP.loopB (ι:=Nat) (fun v=>v≤3) (fun v=>3 - v) [5,7,8] (fun v=>[(9,I v)]) (fun v=>[.cells (wC (cw e.1) 2),.dead,.rows 7 (w.done.map ATxn.row)]) 0 ?_ ?_ ?_
  · omega
  · simp only [go_sem];exact zFr [0,1,2] trivial
  intro v hv
  simp only [go_sem]
  by_cases hk:v < 3
  · obtain ⟨q1,q2,q3⟩:=k7 v hk
    have hs1:=(hae.server (by omega) hk).1
    have hs2:=(hae.server (by omega) (show e.1.leader.toNat < 3 by omega)).1
    have hsv:=fK e.1 v hk hs1 v rfl
    have hsl:=fK e.1 e.1.leader.toNat (by omega) hs2 e.1.leader (by omega)
    unfold inW at hsv hsl
    rw [k6] at hsv hsl
    have hl7:=hs1.2.2.1.2.2.1.1
    have hwi:=wF w.done (e.1.s v).peer.log q1 (by have:=hae.log hk;omega)
    have hs3:=qh (e.1.s v).peer.log hl7
    generalize e.1.s v=s1 at *
    generalize e.1.s e.1.leader.toNat=s2 at *
    (refine zW qw (zc qTk1 (z4 (ac [0,2] hsv) (ac [0,2] hsl) hwi hs3)) (zx @q2 (Eq.symm q3)) (z2 ?_ ?_)<;>(repeat with_reducible intro hc))
    all_goals first | (exfalso;omega) | contradiction | skip
    all_goals refine ⟨v+1,by omega,by omega,?_⟩
    all_goals exact zFr [0,1,2] trivial
  · (refine zW qw (z2 (ac [0,2] hak2) hsm) trivial (z1 ?_)<;>(repeat with_reducible intro hc))
    all_goals first | (exfalso;omega) | contradiction | skip
    all_goals exact zEe trivial
theorem Ef (dss:List (List DV)) (h:fG T 6 Tryz.f5.params.toList dss) (hs:∀ cs,cs∈dss→∀ c,c∈cs→SmallD 1048576 c):ab Tryz.prog [] 5 (fT T Tryz.f5.params.toList dss) (fun v _=>v=B true):=by
  rw [Tryz.params5] at h ⊢
  simp only [List.toList_toArray,fG] at h
  obtain ⟨c0,d0,rfl,h0,c1,d1,rfl,h1,rfl⟩:=h
  have s0:=hs c0 (by simp)
  have s1:=hs c1 (by simp)
  obtain ⟨l,rfl,v_l,w_l⟩:=xA (m:=5) (e:=30) (sz:=13) (by_:=120) (f:=ADeed.row) (wf:=ADeed.wf) (by simp only [sM,oV]) (by simp only [oO,na]) (by simp only [oO,na]) (fun r hr=>eZ (m:=2) hr) h0
  obtain ⟨keep,rfl,w_keep⟩:=fP (m:=5) (by simp only [T_3,ty3]) h1
  have u_l:=s0
  have u_keep:=s1
  simp only [List.toList_toArray,fT,vp,TI.agg_mk,T_3,ty3,sM,oV]
  exact (CV l keep (fun d hd=>⟨w_l d hd,((u_l (DV.sl 13 (l.map ADeed.row)) (by simp)).rows.2 _ (List.mem_map_of_mem hd) (DV.str d.request.path) (by simp [ADeed.row])).len⟩) (by simpa using (u_l (DV.sl 13 (l.map ADeed.row)) (by simp)).rows.1)).mono fun _ _ h=>h.1
def svA (f:Nat→AServer):List AV:=svC (f 0)++(svC (f 1)++svC (f 2))
def clA (f:Nat→AClient):List AV:=clC (f 0)++(clC (f 1)++(clC (f 2)++(clC (f 3)++(clC (f 4)++(clC (f 5)++(clC (f 6)++(clC (f 7)++(clC (f 8)++(clC (f 9)++(clC (f 10)++(clC (f 11)++(clC (f 12)++(clC (f 13)++(clC (f 14)++(clC (f 15))))))))))))))))
theorem I8 (f:Nat→AServer):(svA f).length=30:=rfl
theorem IY (f:Nat→AClient):(clA f).length=48:=rfl
theorem Fb (f:Nat→AServer):List.take 30 (svA f)=svA f:=rfl
theorem GE (f:Nat→AClient):List.take 48 (clA f)=clA f:=rfl
theorem Hg (f:Nat→AServer):List.drop 30 (svA f)=[]:=rfl
theorem EL (f:Nat→AClient):List.drop 48 (clA f)=[]:=rfl
theorem Ma (f:Nat→AServer) (i:Nat) (h:i < 3):List.take 10 (List.drop (i*10) (svA f))=[.d (.bool (f i).up),.d (.sl 3 ((f i).disk.files.map AFile.row)),I (f i).peer.id,I (f i).peer.epoch,.d (.sl 7 ((f i).peer.log.map ATxn.row)),I (f i).peer.done,I (f i).tree.zxid,.d (.sl 9 ((f i).tree.nodes.map ANode.row)),.d (.sl 1 ((f i).tree.sessions.map cW)),.d (.sl 3 ((f i).watches.map AWatch.row))]:=by
  rcases i with _ | _ | _ | i<;>first | rfl | omega
theorem Mm (f:Nat→AClient) (i:Nat) (h:i < 16):List.take 3 (List.drop (i*3) (clA f))=[I (f i).session,I (f i).seen,.d (.sl 3 ((f i).cache.map AEntry.row))]:=by
  rcases i with _ | _ | _ | _ | _ | _ | _ | _ | _ | _ | _ | _ | _ | _ | _ | _ | i<;>first | rfl | omega
theorem FH (f:Nat→AServer) (i:Nat) (h:i < 3):List.take 3 (List.drop (i*10+6) (svA f))=[I (f i).tree.zxid,.d (.sl 9 ((f i).tree.nodes.map ANode.row)),.d (.sl 1 ((f i).tree.sessions.map cW))]:=by
  rcases i with _ | _ | _ | i<;>first | rfl | omega
theorem Lw (f:Nat→AServer) (i:Nat) (h:i < 3):(svA f).getD (i*10) .any=B (f i).up:=by
  rcases i with _ | _ | _ | i<;>first | rfl | omega
theorem Lm (f:Nat→AServer) (i:Nat) (h:i < 3):(svA f).getD (i*10+6) .any=I (f i).tree.zxid:=by
  rcases i with _ | _ | _ | i<;>first | rfl | omega
theorem EC (f:Nat→AClient) (i:Nat) (h:i < 16):(clA f).getD (i*3+1) .any=I (f i).seen:=by
  rcases i with _ | _ | _ | _ | _ | _ | _ | _ | _ | _ | _ | _ | _ | _ | _ | _ | i<;>first | rfl | omega
theorem CA (f:Nat→AClient) (i:Nat) (h:i < 16):(clA f).getD (i*3+2) .any=.d (.sl 3 ((f i).cache.map AEntry.row)):=by
  rcases i with _ | _ | _ | _ | _ | _ | _ | _ | _ | _ | _ | _ | _ | _ | _ | _ | i<;>first | rfl | omega
def Dy {α:Type} (f:Nat→α) (i:Nat) (x:α):Nat→α:=fun j=>if j=i then x else f j
theorem Kv (f:Nat→AServer) (i:Nat) (h:i < 3) (up:Bool) (d:List AFile) (id ep:Int) (log:List ATxn) (done tz:Int) (nd:List ANode) (se:List Int) (wt:List AWatch):List.take (i*10) (svA f)++[.d (.bool up),.d (.sl 3 (d.map AFile.row)),.d (.int .i64 id),.d (.int .i64 ep),.d (.sl 7 (log.map ATxn.row)),.d (.int .i64 done),.d (.int .i64 tz),.d (.sl 9 (nd.map ANode.row)),.d (.sl 1 (se.map cW)),.d (.sl 3 (wt.map AWatch.row))]++List.drop (i*10+10) (svA f)=svA (Dy f i ⟨up,⟨d⟩,⟨id,ep,log,done⟩,⟨tz,nd,se⟩,wt⟩):=by
  rcases i with _ | _ | _ | i<;>first | rfl | omega
theorem IN (f:Nat→AClient) (i:Nat) (h:i < 16) (a b:Int) (l:List AEntry):List.take (i*3) (clA f)++[.d (.int .i64 a),.d (.int .i64 b),.d (.sl 3 (l.map AEntry.row))]++List.drop (i*3+3) (clA f)=clA (Dy f i ⟨a,b,l⟩):=by
  rcases i with _ | _ | _ | _ | _ | _ | _ | _ | _ | _ | _ | _ | _ | _ | _ | _ | i<;>first | rfl | omega
theorem svA_z:svA (fun _=>zS)=[.d (.bool false),.d (.sl 3 []),I 0,I 0,.d (.sl 7 []),I 0,I 0,.d (.sl 9 []),.d (.sl 1 []),.d (.sl 3 []),.d (.bool false),.d (.sl 3 []),I 0,I 0,.d (.sl 7 []),I 0,I 0,.d (.sl 9 []),.d (.sl 1 []),.d (.sl 3 []),.d (.bool false),.d (.sl 3 []),I 0,I 0,.d (.sl 7 []),I 0,I 0,.d (.sl 9 []),.d (.sl 1 []),.d (.sl 3 [])]:=rfl
theorem KV:clA (fun _=>zC)=[I 0,I 0,.d (.sl 3 []),I 0,I 0,.d (.sl 3 []),I 0,I 0,.d (.sl 3 []),I 0,I 0,.d (.sl 3 []),I 0,I 0,.d (.sl 3 []),I 0,I 0,.d (.sl 3 []),I 0,I 0,.d (.sl 3 []),I 0,I 0,.d (.sl 3 []),I 0,I 0,.d (.sl 3 []),I 0,I 0,.d (.sl 3 []),I 0,I 0,.d (.sl 3 []),I 0,I 0,.d (.sl 3 []),I 0,I 0,.d (.sl 3 []),I 0,I 0,.d (.sl 3 []),I 0,I 0,.d (.sl 3 []),I 0,I 0,.d (.sl 3 [])]:=rfl
theorem J9 (r:Nat→Nat) (f:Nat→AServer):renL r (svA f)=svA f:=rfl
theorem J3 (r:Nat→Nat) (f:Nat→AClient):renL r (clA f)=clA f:=rfl
theorem Mh (n:Nat) (f:Nat→AServer):inL n (svA f)=True:=by
  refine eq_true ?_
  unfold svA svC
  simp only [List.cons_append,List.nil_append,inL,inV,and_self]
theorem K7 (n:Nat) (f:Nat→AClient):inL n (clA f)=True:=by
  refine eq_true ?_
  unfold clA clC
  simp only [List.cons_append,List.nil_append,inL,inV,and_self]
theorem I0 (cs:List AV) (f:Nat→AServer):spl cs (svA f) 0=svA f++cs.drop 30:=by
  show cs.take 0++svA f++cs.drop (0+30)=_
  rw [List.take_zero,List.nil_append]
theorem KI (cs:List AV) (f:Nat→AClient):spl cs (clA f) 0=clA f++cs.drop 48:=by
  show cs.take 0++clA f++cs.drop (0+48)=_
  rw [List.take_zero,List.nil_append]
attribute [go_sem high] I0 KI
attribute [go_sem] I8 IY Fb GE Hg EL Ma Mm FH Lw Lm EC CA Kv IN J9 J3 Mh K7
def fL {α:Type} (f:Nat→α) (z:α) (k:Nat):Nat→α:=fun j=>if j < k then f j else z
theorem pD {α:Type} (f:Nat→α) (z:α):fL f z 0=fun _=>z:=funext fun j=>if_neg (Nat.not_lt_zero j)
theorem p6 {α:Type} (f:Nat→α) (z:α) (k:Nat):Dy (fL f z k) k (f k)=fL f z (k+1):=funext fun j=>by
  unfold Dy fL
  by_cases e:j=k
  · subst e;rw [if_pos rfl,if_pos (Nat.lt_succ_self j)]
  · rw [if_neg e]
    by_cases h:j < k
    · rw [if_pos h,if_pos (by omega)]
    · rw [if_neg h,if_neg (by omega)]
theorem DM (f:Nat→AServer):svA (fL f zS 3)=svA f:=rfl
theorem Em (f:Nat→AClient):clA (fL f zC 16)=clA f:=rfl
set_option maxHeartbeats 16000000 in
theorem G2 (w:AWorld) (n:Nat) (ha:bx w n) (hn:n < 1000):ab Tryz.prog (inW w) 40 [.ptr 0 0] (cp (.tup [.agg (svA w.s),.agg (clA w.c)]) (inW w)):=by
  unfold inW
  refine zJ Tryz.func40 Tryz.ntmps40 Tryz.results40 ?_;simp only [go_sem]
  (refine zW qw zn trivial (z1 ?_)<;>(repeat with_reducible intro hc))
  all_goals first | (exfalso;omega) | contradiction | skip
  refine AWP.weaken (aF.trans (aF.coeB (cs':=svA (fun _=>zS)) 2 rfl (by rw [svA_z];simp (disch:=omega) only [go_sem,aa])) (aF.trans (aF.coeB (cs':=clA (fun _=>zC)) 3 rfl (by rw [KV];simp (disch:=omega) only [go_sem,aa])) (aF.trans (aF.coeB (cs':=svA (fun _=>zS)) 4 rfl (by rw [svA_z];simp (disch:=omega) only [go_sem,aa])) (aF.coeB (cs':=clA (fun _=>zC)) 5 rfl (by rw [KV];simp (disch:=omega) only [go_sem,aa]))))) ?_
  simp only [go_sem]
  refine AWP.loopB (ι:=Nat) (fun v=>v≤3) (fun v=>3 - v) [0,2,3,4,5] (fun v=>[(6,I v)]) (fun v=>[.cells (wC (cw w) 1),.rows 7 (w.done.map ATxn.row),.cells (svA (fun _=>zS)),.cells (clA (fun _=>zC)),.cells (svA (fL w.s zS v)),.cells (clA (fun _=>zC))]) 0 ?_ ?_ ?_
  · omega
  · simp only [go_sem,pD];exact zFr [0,1,2,3,4,5] trivial
  intro v hv
  simp only [go_sem]
  by_cases hk:v < 3
  · have hs:=(ha.server hn hk).1
    have hsv:=fK w v hk hs v rfl
    unfold inW at hsv
    have hfs:Dy (fL w.s zS v) v ⟨(w.s v).up,⟨(w.s v).disk.files⟩,⟨(w.s v).peer.id,(w.s v).peer.epoch,(w.s v).peer.log,(w.s v).peer.done⟩,⟨(w.s v).tree.zxid,(w.s v).tree.nodes,(w.s v).tree.sessions⟩,(w.s v).watches⟩=fL w.s zS (v+1):=p6 w.s zS v
    (refine zW qw (z1 (ac [0,1] hsv)) @hfs (z1 ?_)<;>(repeat with_reducible intro hc))
    all_goals first | (exfalso;omega) | contradiction | skip
    all_goals refine ⟨v+1,by omega,by omega,?_⟩
    all_goals exact zFr [0,1,2,3,4,5] @hfs
  obtain rfl:v=3:=by omega
  (refine zW qw zn trivial (z1 ?_)<;>(repeat with_reducible intro hc))
  all_goals first | (exfalso;omega) | contradiction | skip
  clear hv hk
  refine AWP.loopB (ι:=Nat) (fun v=>v≤16) (fun v=>16 - v) [0,2,3,4,5] (fun v=>[(7,I v)]) (fun v=>[.cells (wC (cw w) 1),.rows 7 (w.done.map ATxn.row),.cells (svA (fun _=>zS)),.cells (clA (fun _=>zC)),.cells (svA (fL w.s zS 3)),.cells (clA (fL w.c zC v))]) 0 ?_ ?_ ?_
  · omega
  · simp only [go_sem,pD];exact zFr [0,1,2,3,4,5] trivial
  intro v hv
  simp only [go_sem]
  by_cases hk:v < 16
  · have hs:=(ha.client hn hk).1
    have hsv:=C9 w v hk hs v rfl
    unfold inW at hsv
    have hfs:Dy (fL w.c zC v) v ⟨(w.c v).session,(w.c v).seen,(w.c v).cache⟩=fL w.c zC (v+1):=p6 w.c zC v
    (refine zW qw (z1 (ac [0,1] hsv)) @hfs (z1 ?_)<;>(repeat with_reducible intro hc))
    all_goals first | (exfalso;omega) | contradiction | skip
    all_goals refine ⟨v+1,by omega,by omega,?_⟩
    all_goals exact zFr [0,1,2,3,4,5] @hfs
  obtain rfl:v=16:=by omega
  rw [DM,Em]
  (repeat' first
| (with_reducible refine AR.f ?_)
| refine ap (by decide) ?_
| (with_reducible refine AWP.cond rfl ?_ ?_<;>intro hc<;>(try simp only [hcs,beq_iff_eq,ge_iff_le,gt_iff_lt] at hc))
| ((first | ((first | refine zP ((Plan.takes [0] (.fork 1 (Plan.takes [2,3] .done) 2 (Plan.takes [1,3] .done)))) (by decide +kernel) ?_ | (with_reducible first | refine zR ?_ | refine zQ (by decide +kernel) ?_ | refine zD (by decide +kernel) ?_ | refine zE (by decide +kernel) ?_ | refine zG (by decide +kernel) ?_));intro K hK) | ((first | (with_reducible refine aunder_i ?_ ?_<;>intro hg) | with_reducible intro hg)<;>(first | (exfalso;simp at hg;done) | (have hg':=hg;(try simp only [hcs,beq_iff_eq,ge_iff_le,gt_iff_lt] at hg');(try simp only [hg])))))<;>(try simp (disch:=omega) only [go_sem,aa])<;>(repeat' with_reducible refine And.intro ?_ ?_)<;>(try (with_reducible refine hK _ ?_;clear hK K)))
| omega)
  all_goals first | (exfalso;omega) | contradiction | skip
  all_goals (refine zO ?_ ?_;(focus ((try simp (disch:=omega) only [go_sem,aa])<;>fail));simp (disch:=omega) only [go_sem,aa];refine ag.of_simp ?_ (ag.same ⟨rfl,rfl⟩);refine zV [0,1] rfl rfl rfl rfl ?_ ?_<;>simp (disch:=omega) only [go_sem,aa,true_or,or_true])
end Go.Proofs.YtjcooccnfkfjhaaGreatDoor
