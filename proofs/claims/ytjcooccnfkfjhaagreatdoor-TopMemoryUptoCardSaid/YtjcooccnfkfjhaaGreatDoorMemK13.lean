/- A part of what Mem leans on: texts of this claim, one behind the other. No condition. -/
import Derived.Test.YtjcooccnfkfjhaaGreatDoorMemK12
namespace Go.Proofs.YtjcooccnfkfjhaaGreatDoor
set_option linter.unusedVariables false
set_option linter.unusedSimpArgs false
open Go Go.RowKit
theorem Gj:Pls [Plan.takes [0,1,2,3,4,5,6,7,8,9] .done,Plan.takes [0,1,2,4] (.forks 3 (.fork 5 (.fork 6 (Plan.takes [7,8,9,10,11,12] .done) 10 (Plan.takes [6,7,8,9,11,12] .done)) 10 (Plan.takes [5,6,7,8,9,11,12] .done)) 5 (.fork 3 (.fork 6 (Plan.takes [7,8,9,10,11,12] .done) 10 (Plan.takes [6,7,8,9,11,12] .done)) 10 (Plan.takes [3,6,7,8,9,11,12] .done)) 10 (Plan.takes [3,5,6,7,8,9,11,12] .done)),Plan.takes [0,1,2,3,4,5,6,7,8,9,11,17,18] (.fork 10 (Plan.takes [12,13,14,15,16,19,20] .done) 12 (Plan.takes [10,13,14,15,16,19,20] .done)),Plan.takes [0,1,2,3,4,7] (.forks 5 (.fork 6 (.fork 8 (Plan.takes [9,10,11,12,13,14] .done) 12 (Plan.takes [8,9,10,11,13,14] .done)) 12 (Plan.takes [6,8,9,10,11,13,14] .done)) 6 (.fork 5 (.fork 8 (Plan.takes [9,10,11,12,13,14] .done) 12 (Plan.takes [8,9,10,11,13,14] .done)) 12 (Plan.takes [5,8,9,10,11,13,14] .done)) 12 (Plan.takes [5,6,8,9,10,11,13,14] .done)),Plan.takes [0,1,2,3,4,5,6] .done]:=pls _
attribute [go_sem] Tryz.ntmps107 Tryz.results107 Tryz.ntmps108 Tryz.results108
set_option maxRecDepth 100000
theorem Iw (a:Int):bits .and .i64 a 1=a%2:=by
 show IntKind.i64.wrap ((BitVec.ofInt 64 a &&& BitVec.ofInt 64 ((1:Nat):Int)).toNat:Int)=_
 rw [BitVec.toNat_and,iB 1 (by decide),show (1:Nat)=2^1-1 from rfl,Nat.and_two_pow_sub_one_eq_mod,BitVec.toNat_ofInt,IntKind.wrap_i64]
 omega
theorem DC (n:Int) (i:Nat):decide (bits .and .i64 (n/2^i) 1=0)=!su n i:=by
 rw [Iw];unfold su
 rw [Bool.eq_iff_iff,Bool.not_eq_true',decide_eq_true_eq,decide_eq_false_iff_not];omega
theorem B6 {n:Nat} (h:n<1000):IntKind.u64.wrap (n:Int)=(n:Int):=by rw [IntKind.wrap_u64];omega
theorem K1 (v:CW) (i:Nat) (b:Bool) (h:v.f i=b):v.setF i b=v:=by
 unfold CW.setF
 have:(fun j=>if j=i then b else v.f j)=v.f:=funext fun j=>by
  by_cases e:j=i
  ·subst e;rw [if_pos rfl,h]
  ·rw [if_neg e]
 rw [this]
theorem uj (z:Int):okI (lz z).1:=by
 unfold lz
 split
 ·rename_i h
  unfold bR at h
  split
  ·exact ⟨by show (-9223372036854775808:Int)≤0;decide,by show (0:Int)≤9223372036854775807;decide⟩
  ·constructor
   ·show (-9223372036854775808:Int)≤_;simp only;omega
   ·show _≤(9223372036854775807:Int);simp only;omega
 ·exact ⟨by show (-9223372036854775808:Int)≤0;decide,by show (0:Int)≤9223372036854775807;decide⟩
theorem Cy (p:APeer):okI (dC p).1:=by
 unfold dC
 split
 ·split
  ·exact ⟨by show (-9223372036854775808:Int)≤0;decide,by show (0:Int)≤9223372036854775807;decide⟩
  ·exact uj _
 ·exact uj _
structure TgInv (w:AWorld) (x:ATxn) (lost slow:Int) (F:AWorld×List Nat×Int) (v:Nat×AWorld×List Nat):Prop where
 k:v.1≤3
 f:bG x w.leader lost slow (([0,1,2]:List Nat).drop v.1) v.2.1 v.2.2=F
 l:WL v.2.1
 s:∀ i,v.1≤i→i<3→v.2.1.s i=w.s i
 fl:∀ i,v.1≤i→i<3→v.2.1.f i=w.f i
 ld:v.2.1.leader=w.leader
 d:v.2.1.done=w.done
 c:v.2.1.cl=w.cl
 sg:∀ i,i<3→SG (v.2.1.s i)
 h:v.2.2.length≤v.1∧∀ i,i∈v.2.2→i<3
section
variable {w:AWorld} {x:ATxn} {lost slow:Int} {F:AWorld×List Nat×Int} {v:Nat×AWorld×List Nat}
theorem TgInv.skip (h:TgInv w x lost slow F v) (hk:v.1<3) (hf:v.2.1.f v.1=false):TgInv w x lost slow F (v.1+1,v.2):=by
 obtain ⟨h1,h2,h3,h4,h5,h6,h7,h8,h9,h10,h11⟩:=h
 rw [ph hk,bG,if_pos hf] at h2
 exact ⟨hk,h2,h3,fun i a b=>h4 i (by simp only at a;omega) b,fun i a b=>h5 i (by simp only at a;omega) b,h6,h7,h8,h9,by simp only;omega,h11⟩
theorem TgInv.gone (h:TgInv w x lost slow F v) (hk:v.1<3) (hf:¬ v.2.1.f v.1=false) (hb:¬ w.leader=(v.1:Int)∧su lost v.1=true):TgInv w x lost slow F (v.1+1,v.2.1.setF v.1 false,v.2.2):=by
 obtain ⟨h1,h2,⟨e1,e2,e3⟩,h4,h5,h6,h7,h8,h9,h10,h11⟩:=h
 rw [ph hk,bG,if_neg hf,if_pos hb] at h2
 refine ⟨hk,h2,⟨e1,by show (v.2.1.fl.set _ _).length=3;rw [List.length_set];exact e2,e3⟩,fun i a b=>h4 i (by simp only at a;omega) b,fun i a b=>?_,h6,h7,h8,h9,by simp only;omega,h11⟩
 simp only at a
 show (v.2.1.setF v.1 false).f i=w.f i
 rw [nK (by omega),if_neg (by omega)]
 exact h5 i (by omega) b
theorem TgInv.stop (h:TgInv w x lost slow F v) (hk:v.1<3) (hf:¬ v.2.1.f v.1=false) (hb:¬ (¬ w.leader=(v.1:Int)∧su lost v.1=true)) {sf:Bool} (hsf:(decide (w.leader=(v.1:Int))||!su slow v.1)=sf) (ht:(bh (w.s v.1) x sf).2≠0):F=(v.2.1,v.2.2,(bh (w.s v.1) x sf).2):=by
 have h2:=h.f
 have hs:=h.s v.1 (Nat.le_refl _) hk
 rw [ph hk,bG,hs,if_neg hf,if_neg hb,hsf,if_pos ht] at h2
 exact h2.symm
theorem TgInv.next (h:TgInv w x lost slow F v) (hk:v.1<3) (hf:¬ v.2.1.f v.1=false) (hb:¬ (¬ w.leader=(v.1:Int)∧su lost v.1=true)) {sf:Bool} (hsf:(decide (w.leader=(v.1:Int))||!su slow v.1)=sf) (ht:¬ (bh (w.s v.1) x sf).2≠0)
  (hx:x.wf) (hp:x.path.length≤1048576) (hl:(w.s v.1).peer.log.length≤1048576):TgInv w x lost slow F (v.1+1,v.2.1.setS v.1 (bh (w.s v.1) x sf).1,if sf=true then v.2.2++[v.1] else v.2.2):=by
 obtain ⟨h1,h2,⟨e1,e2,e3⟩,h4,h5,h6,h7,h8,h9,h10,h11⟩:=h
 have hs:=h4 v.1 (Nat.le_refl _) hk
 rw [ph hk,bG,hs,if_neg hf,if_neg hb,hsf,if_neg ht] at h2
 have hg:=h9 v.1 hk
 rw [hs] at hg
 have hg2:=Ia (safe:=sf) hg hx hp hl (Classical.not_not.1 ht)
 refine ⟨hk,h2,⟨by show (v.2.1.sv.set _ _).length=3;rw [List.length_set];exact e1,e2,e3⟩,fun i a b=>?_,fun i a b=>h5 i (by simp only at a;omega) b,h6,h7,h8,fun i hi=>?_,?_,?_⟩
 ·simp only at a
  show (v.2.1.setS v.1 _).s i=w.s i
  rw [ez (by omega),if_neg (by omega)]
  exact h4 i (by omega) b
 ·show SG ((v.2.1.setS v.1 _).s i)
  rw [ez (by omega)]
  split
  ·exact hg2
  ·exact h9 i hi
 ·simp only
  split
  ·rw [List.length_append,List.length_singleton];omega
  ·omega
 ·simp only
  intro i hi
  split at hi
  ·rcases List.mem_append.1 hi with hi|hi
   ·exact h11 i hi
   ·rw [List.mem_singleton.1 hi];exact hk
  ·exact h11 i hi
theorem TgInv.end (h:TgInv w x lost slow F v) (hk:¬ v.1<3):F=(v.2.1,v.2.2,0):=by
 have h2:=h.f
 have hk3:v.1=3:=by have:=h.k;omega
 rw [hk3] at h2
 exact h2.symm
end
structure WrOk (w:AWorld):Prop where
 l:WL w
 s:∀ i,i<3→SG (w.s i)
 n:∀ i,i<3→(w.s i).peer.log.length≤100000
 c:∀ i,i<16→(w.c i).cache.length≤100000∧aV ((w.c i).cache.map AEntry.path)
 cs:∀ i,i<16→okI (w.c i).session
 d:w.done.length≤100000
 ld:w.leader<3
 sn:∀ i,i<16→0≤w.leader→(w.c i).seen≤(dC (w.s w.leader.toNat).peer).1∨(dC (w.s w.leader.toNat).peer).2≠0
set_option maxHeartbeats 16000000 in
theorem Fk (w:AWorld) (d:ADeed) (hw:WrOk w) (hdw:d.wf) (hdp:d.request.path.length≤1048576):ab Tryz.prog (inW w) 55 [.ptr 0 0,d.av] (cN (d6 w d).1 (d6 w d).2):=by
 obtain ⟨⟨e1,e2,e3⟩,hs,hn,hc16,hcz,hdn,hl3,hsn⟩:=hw
 obtain ⟨kind,client,server,rq,lost,slow,keep,watch⟩:=d
 obtain ⟨_,hcI,_,hrq,hlo,hsl,_,_⟩:=hdw
 simp only at hcI hrq hlo hsl hdp
 unfold d6
 simp only
 by_cases h1:client<0∨16≤client
 ·rw [if_pos h1]
  have hcb:(decide (client<0)||decide (16≤client))=true:=by rcases h1 with h|h<;>simp [h]
  unfold inW cN
  refine zJ Tryz.func55 Tryz.ntmps55 Tryz.results55 ?_;simp only [go_sem]
  (refine zW qs zn @hcb (z1 ?_)<;>(repeat with_reducible intro hc))
  all_goals first|(exfalso;omega)|contradiction|(exfalso;simp_all;done)|skip
  all_goals (refine zO ?_ ?_;(focus ((try simp (disch:=omega) only [go_sem,aa])<;>fail));simp (disch:=omega) only [go_sem,aa];exact ag.worldV (r:=noR 3) (rfl) rfl rfl rfl)
 rw [if_neg h1]
 obtain ⟨cl,rfl⟩:∃ cl:Nat,client=(cl:Int):=⟨client.toNat,by omega⟩
 have hcl:cl<16:=by omega
 have hcb:(decide ((cl:Int)<0)||decide (16≤(cl:Int)))=false:=by rw [decide_eq_false (by omega),decide_eq_false (by omega)];rfl
 by_cases h2:w.leader<0
 ·rw [if_pos h2]
  have hlb:decide (w.leader<0)=true:=decide_eq_true h2
  unfold inW cN
  refine zJ Tryz.func55 Tryz.ntmps55 Tryz.results55 ?_;simp only [go_sem]
  (refine zW qs zn (zx @hcb @hlb) (z1 ?_)<;>(repeat with_reducible intro hc))
  all_goals first|(exfalso;omega)|contradiction|(exfalso;simp_all;done)|skip
  all_goals (refine zO ?_ ?_;(focus ((try simp (disch:=omega) only [go_sem,aa])<;>fail));simp (disch:=omega) only [go_sem,aa];exact ag.worldV (r:=noR 14) (rfl) rfl rfl rfl)
 rw [if_neg h2]
 obtain ⟨li,hle⟩:∃ li:Nat,w.leader=(li:Int):=⟨w.leader.toNat,by omega⟩
 have hli:li<3:=by omega
 have hgl:=hs li hli
 have hnx:=yF (w.s li).peer hgl.gs.w.2.2.1.2.2.1.1
 have hnk:=Cy (w.s li).peer
 have hsn2:=hsn cl hcl (by omega)
 have hlb:decide ((li:Int)<0)=false:=decide_eq_false (by omega)
 unfold kE
 rw [hle] at hsn2 ⊢
 simp only [Int.toNat_natCast] at hsn2 ⊢
 generalize dC (w.s li).peer=q at hnx hnk hsn2 ⊢
 obtain ⟨z,ze⟩:=q
 simp only at hnx hnk hsn2 ⊢
 unfold inW cN
 refine zJ Tryz.func55 Tryz.ntmps55 Tryz.results55 ?_;simp only [go_sem]
 (refine zW qs zn (zx @hcb (zx @hle @hlb)) (z1 ?_)<;>(repeat with_reducible intro hc))
 all_goals first|(exfalso;omega)|contradiction|(exfalso;simp_all;done)|skip
 refine AWP.meetB [0,3,4] [(5,.ptr 4 0)] [.cells (wC (cw w) 1),.rows 7 (w.done.map ATxn.row),.cells [I kind,I (cl:Int),I server,I rq.op,I rq.session,S rq.path,S rq.data,I rq.version,I rq.flags,I lost,I slow,I keep,B watch],.cells [I 0,I 0,S [],S [],I 0,I 0,I 0,I 0,I 0,I 0,I 0,.d (.sc (.slice none 0 0))],.cells [I rq.op,I (w.c cl).session,S rq.path,S rq.data,I rq.version,I rq.flags]] ?_ ?_
 ·(refine zW qw (z1 Gj) trivial (z1 ?_)<;>(repeat with_reducible intro hc))
  all_goals first|(exfalso;omega)|contradiction|(exfalso;simp_all;done)|skip
  all_goals exact zFr [0,1,2,3,4] trivial
 simp only [go_sem]
 (refine zW qs zn trivial (z1 ?_)<;>(repeat with_reducible intro hc))
 refine AWP.meetB [0,3,4,5] [(6,.ptr 0 (li*10))] [.cells (wC (cw w) 1),.rows 7 (w.done.map ATxn.row),.cells [I kind,I (cl:Int),I server,I rq.op,I rq.session,S rq.path,S rq.data,I rq.version,I rq.flags,I lost,I slow,I keep,B watch],.cells [I 0,I 0,S [],S [],I 0,I 0,I 0,I 0,I 0,I 0,I 0,.d (.sc (.slice none 0 0))],.cells [I rq.op,I (w.c cl).session,S rq.path,S rq.data,I rq.version,I rq.flags]] ?_ ?_
 ·(refine zW qw zn @hle (z1 ?_)<;>(repeat with_reducible intro hc))
  all_goals first|(exfalso;omega)|contradiction|(exfalso;simp_all;done)|skip
  all_goals exact zFr [0,1,2,3,4] trivial
 simp only [go_sem]
 by_cases hz:ze=0
 case neg=>
  rw [if_pos hz]
  (refine zW qs (z1 hnx) trivial (z1 ?_)<;>(repeat with_reducible intro hc))
  all_goals first|(exfalso;omega)|contradiction|(exfalso;simp_all;done)|skip
  all_goals (refine zO ?_ ?_;(focus ((try simp (disch:=omega) only [go_sem,aa])<;>fail));simp (disch:=omega) only [go_sem,aa];exact ag.worldV (r:=noR ze) (rfl) rfl rfl rfl)
 subst hz
 rw [if_neg (fun h=>h rfl)]
 have hpr:=JU (w.s li).tree z ⟨rq.op,(w.c cl).session,rq.path,rq.data,rq.version,rq.flags⟩ hgl.gs.t ⟨hrq.1,hcz cl hcl,hrq.2.2.1,hrq.2.2.2.1,hrq.2.2.2.2.1,hrq.2.2.2.2.2⟩ hdp hnk
 have hpk:=@AY (w.s li).tree z ⟨rq.op,(w.c cl).session,rq.path,rq.data,rq.version,rq.flags⟩
 generalize cr (w.s li).tree z ⟨rq.op,(w.c cl).session,rq.path,rq.data,rq.version,rq.flags⟩=p at hpr hpk ⊢
 obtain ⟨x,pe⟩:=p
 simp only at hpr hpk ⊢
 (refine zW qs (z1 hnx) trivial (z1 ?_)<;>(repeat with_reducible intro hc))
 all_goals first|(exfalso;omega)|contradiction|(exfalso;simp_all;done)|skip
 refine AWP.meetB [0,3,4] [(8,I pe),(9,.ptr 5 0)] [.cells (wC (cw w) 1),.rows 7 (w.done.map ATxn.row),.cells [I kind,I (cl:Int),I server,I rq.op,I rq.session,S rq.path,S rq.data,I rq.version,I rq.flags,I lost,I slow,I keep,B watch],.cells [I 0,I 0,S [],S [],I 0,I 0,I 0,I 0,I 0,I 0,I 0,.d (.sc (.slice none 0 0))],.cells [I rq.op,I (w.c cl).session,S rq.path,S rq.data,I rq.version,I rq.flags],.cells [I x.zxid,I x.op,I x.session,S x.path,S x.data,I x.version,I x.owner]] ?_ ?_
 ·(refine zW qw (z2 Gj hpr) trivial (zc ?_ (zc ?_ (zc ?_ (z4 ?_ ?_ ?_ ?_))))<;>(repeat with_reducible intro hc))
  all_goals first|(exfalso;omega)|contradiction|(exfalso;simp_all;done)|skip
  all_goals exact zFr [0,1,2,3,4,5] trivial
 simp only [go_sem]
 by_cases hz:pe=0
 case neg=>
  rw [if_pos hz]
  (refine zW qs zn trivial (z1 ?_)<;>(repeat with_reducible intro hc))
  all_goals first|(exfalso;omega)|contradiction|(exfalso;simp_all;done)|skip
  all_goals (refine zO ?_ ?_;(focus ((try simp (disch:=omega) only [go_sem,aa])<;>fail));simp (disch:=omega) only [go_sem,aa];exact ag.worldV (r:=noR pe) (rfl) rfl rfl rfl)
 subst hz
 rw [if_neg (fun h=>h rfl)]
 obtain ⟨hxz,hxa⟩:=hpk rfl
 obtain ⟨hxw,hxp⟩:=FV (Bc hxa).1
 have hsx:(w.c cl).seen≤x.zxid:=by rcases hsn2 with h|h<;>omega
 clear hpk hpr hnx hsn hsn2
 rw [←hle]
 generalize hF:bG x w.leader lost slow [0,1,2] w []=F
 (refine zW qs zn trivial (z1 ?_)<;>(repeat with_reducible intro hc))
 all_goals first|(exfalso;omega)|contradiction|(exfalso;simp_all;done)|skip
 refine AWP.weaken (aM.nilOwn 10 1 rfl) ?_
 simp only [go_sem]
 refine AWP.loopB (ι:=Nat×AWorld×List Nat) (fun v=>TgInv w x lost slow F v) (fun v=>3-v.1) [0,3,4,9] (fun v=>[(75,I v.1),(10,.osl 6 1 0 v.2.2.length)]) (fun v=>[.cells (wC (cw v.2.1) 1),.rows 7 (w.done.map ATxn.row),.cells [I kind,I (cl:Int),I server,I rq.op,I rq.session,S rq.path,S rq.data,I rq.version,I rq.flags,I lost,I slow,I keep,B watch],.cells [I 0,I 0,S [],S [],I 0,I 0,I 0,I 0,I 0,I 0,I 0,.d (.sc (.slice none 0 0))],.cells [I rq.op,I (w.c cl).session,S rq.path,S rq.data,I rq.version,I rq.flags],.cells [I x.zxid,I x.op,I x.session,S x.path,S x.data,I x.version,I x.owner],.rows 1 (v.2.2.map nu)]) (0,w,[]) ?_ ?_ ?_
 ·exact ⟨Nat.zero_le _,hF,⟨e1,e2,e3⟩,fun i _ _=>rfl,fun i _ _=>rfl,rfl,rfl,rfl,hs,Nat.le_refl _,fun i h=>by cases h⟩
 ·simp only [go_sem];exact zFr [0,1,2,3,4,5,6] trivial
 intro v hv
 simp only [go_sem]
 have hvk:=hv.k
 have hvld:=hv.ld
 obtain ⟨hh1,hh2⟩:=hv.h
 by_cases hk4:v.1<3
 ·have hs0:=hv.s v.1 (Nat.le_refl _) hk4
  by_cases hf:v.2.1.f v.1=false
  ·have hsk:=hv.skip hk4 hf
   (refine zW qs zn @hf (z1 ?_)<;>(repeat with_reducible intro hc))
   all_goals first|(exfalso;omega)|contradiction|(exfalso;simp_all;done)|skip
   refine ⟨(v.1+1,v.2),hsk,by simp only;omega,?_⟩
   exact zFr [0,1,2,3,4,5,6] trivial
  have hft:v.2.1.f v.1=true:=by simpa using hf
  have hbe:=DC lost v.1
  have hse:=DC slow v.1
  have hwu:=B6 (n:=v.1) (by omega)
  by_cases hb:¬ w.leader=(v.1:Int)∧su lost v.1=true
  ·have hls:=hv.gone hk4 hf hb
   have k1:=cwF1 hv.l.fl hk4
   have hlf:decide ((v.1:Int)=w.leader)=false:=decide_eq_false (fun h=>hb.1 h.symm)
   (refine zW qs zn @hft (z1 ?_)<;>(repeat with_reducible intro hc))
   all_goals first|(exfalso;omega)|contradiction|(exfalso;simp_all;done)|skip
   refine AWP.meetB [0,3,4,9,10,11,75] [] [.cells (wC (cw (v.2.1.setF v.1 false)) 1),.rows 7 (w.done.map ATxn.row),.cells [I kind,I (cl:Int),I server,I rq.op,I rq.session,S rq.path,S rq.data,I rq.version,I rq.flags,I lost,I slow,I keep,B watch],.cells [I 0,I 0,S [],S [],I 0,I 0,I 0,I 0,I 0,I 0,I 0,.d (.sc (.slice none 0 0))],.cells [I rq.op,I (w.c cl).session,S rq.path,S rq.data,I rq.version,I rq.flags],.cells [I x.zxid,I x.op,I x.session,S x.path,S x.data,I x.version,I x.owner],.rows 1 (v.2.2.map nu)] ?_ ?_
   ·(refine zW qw (z1 Gj) (zx @hvld (zx @hlf (zx @hwu (zx @hbe @hb.2)))) (z2 ?_ ?_)<;>(repeat with_reducible intro hc))
    all_goals first|(exfalso;omega)|contradiction|(exfalso;simp_all;done)|skip
    all_goals exact zFr [0,1,2,3,4,5,6] @k1
   simp only [go_sem]
   have hff:(v.2.1.setF v.1 false).f v.1=false:=by rw [nK (by have:=hv.l.fl;omega),if_pos rfl]
   (refine zW qs zn @hff (z1 ?_)<;>(repeat with_reducible intro hc))
   all_goals first|(exfalso;omega)|contradiction|(exfalso;simp_all;done)|skip
   refine ⟨(v.1+1,v.2.1.setF v.1 false,v.2.2),hls,by simp only;omega,?_⟩
   exact zFr [0,1,2,3,4,5,6] trivial
  have hgo:(bif decide ((v.1:Int)=w.leader) then true else !su lost v.1)=true:=by
   by_cases e:(v.1:Int)=w.leader
   ·rw [decide_eq_true e];rfl
   ·rw [decide_eq_false e]
    have:su lost v.1=false:=by
     by_cases hq:su lost v.1=true
     ·exact absurd ⟨fun h=>e h.symm,hq⟩ hb
     ·simpa using hq
    rw [this];rfl
  have k1:=K1 (cw v.2.1) v.1 true hft
  generalize hsf:(decide (w.leader=(v.1:Int))||!su slow v.1)=sf
  have hsf2:(bif decide ((v.1:Int)=w.leader) then true else !su slow v.1)=sf:=by
   rw [←hsf,show decide ((v.1:Int)=w.leader)=decide (w.leader=(v.1:Int)) from decide_eq_decide.2 ⟨Eq.symm,Eq.symm⟩]
   cases decide (w.leader=(v.1:Int))<;>rfl
  have hgk:=hs v.1 hk4
  have hnk4:=hn v.1 hk4
  have htk:=zK (w.s v.1) x sf hgk.gs.w hxw (by omega)
  have hst:=hv.stop hk4 hf hb hsf
  have hnx:=fun a=>hv.next hk4 hf hb hsf a hxw (by omega) (by omega)
  (refine zW qs zn @hft (z1 ?_)<;>(repeat with_reducible intro hc))
  all_goals first|(exfalso;omega)|contradiction|(exfalso;simp_all;done)|skip
  refine AWP.meetB [0,3,4,9,10,11,75] [] [.cells (wC (cw v.2.1) 1),.rows 7 (w.done.map ATxn.row),.cells [I kind,I (cl:Int),I server,I rq.op,I rq.session,S rq.path,S rq.data,I rq.version,I rq.flags,I lost,I slow,I keep,B watch],.cells [I 0,I 0,S [],S [],I 0,I 0,I 0,I 0,I 0,I 0,I 0,.d (.sc (.slice none 0 0))],.cells [I rq.op,I (w.c cl).session,S rq.path,S rq.data,I rq.version,I rq.flags],.cells [I x.zxid,I x.op,I x.session,S x.path,S x.data,I x.version,I x.owner],.rows 1 (v.2.2.map nu)] ?_ ?_
  ·cases hdb:decide ((v.1:Int)=w.leader)
   ·have hbl:su lost v.1=false:=by
     rw [hdb] at hgo
     simpa using hgo
    (refine zW qw (z1 Gj) (zx @hvld (zx @hwu (zx @hbe (zx @hdb @hbl)))) (z2 ?_ ?_)<;>(repeat with_reducible intro hc))
    all_goals first|(exfalso;omega)|skip
    all_goals exact zFr [0,1,2,3,4,5,6] @k1
   ·(refine zW qw (z1 Gj) (zx @hvld (zx @hwu (zx @hbe @hdb))) (z2 ?_ ?_)<;>(repeat with_reducible intro hc))
    all_goals first|(exfalso;omega)|skip
    all_goals exact zFr [0,1,2,3,4,5,6] @k1
  simp only [go_sem]
  generalize bh (w.s v.1) x sf=tk at htk hst hnx
  obtain ⟨t1,te⟩:=tk
  simp only at htk hst hnx
  cases hdb:decide ((v.1:Int)=w.leader)
  all_goals (
   rw [hdb] at hsf2
   simp only [cond_true,cond_false] at hsf2
   (repeat' first
|(with_reducible refine AR.f ?_)
|refine ap (by decide) ?_
|(with_reducible refine AWP.cond rfl ?_ ?_<;>intro hc<;>(try simp only [hcs,beq_iff_eq,ge_iff_le,gt_iff_lt] at hc))
|((first|((first|(with_reducible first|refine zR ?_));intro K hK)|((first|(with_reducible refine aunder_i ?_ ?_<;>intro hg)|with_reducible intro hg)<;>(first|(exfalso;simp at hg;done)|(have hg':=hg;(try simp only [hcs,beq_iff_eq,ge_iff_le,gt_iff_lt] at hg');(try simp only [hg])))))<;>(try simp (disch:=omega) only [go_sem,aa,hft,hvld,hwu,hse,hdb])<;>(repeat' with_reducible refine And.intro ?_ ?_)<;>(try (with_reducible refine hK _ ?_;clear hK K)))
|omega)
   all_goals first|(exfalso;omega)|contradiction|(exfalso;simp_all;done)|skip
   refine AWP.meetB [0,3,4,9,10,11,12,75] [(13,.ptr 7 0),(14,I te)] [.cells (wC (cw v.2.1) 1),.rows 7 (w.done.map ATxn.row),.cells [I kind,I (cl:Int),I server,I rq.op,I rq.session,S rq.path,S rq.data,I rq.version,I rq.flags,I lost,I slow,I keep,B watch],.cells [I 0,I 0,S [],S [],I 0,I 0,I 0,I 0,I 0,I 0,I 0,.d (.sc (.slice none 0 0))],.cells [I rq.op,I (w.c cl).session,S rq.path,S rq.data,I rq.version,I rq.flags],.cells [I x.zxid,I x.op,I x.session,S x.path,S x.data,I x.version,I x.owner],.rows 1 (v.2.2.map nu),.cells [B t1.up,.d (.sl 3 (t1.disk.files.map AFile.row)),I t1.peer.id,I t1.peer.epoch,.d (.sl 7 (t1.peer.log.map ATxn.row)),I t1.peer.done,I t1.tree.zxid,.d (.sl 9 (t1.tree.nodes.map ANode.row)),.d (.sl 1 (t1.tree.sessions.map cU)),.d (.sl 3 (t1.watches.map AWatch.row))]] ?_ ?_
   ·(repeat' first
|(with_reducible refine AR.f ?_)
|refine ap (by decide) ?_
|(with_reducible refine AWP.cond rfl ?_ ?_<;>intro hc<;>(try simp only [hcs,beq_iff_eq,ge_iff_le,gt_iff_lt] at hc))
|((first|((first|refine zP ((Plan.takes [0,1,2,3,4,5,6,7,8,9] .done)) (by decide +kernel) ?_|refine zP ((Plan.takes [0,1,2,4] (.forks 3 (.fork 5 (.fork 6 (Plan.takes [7,8,9,10,11,12] .done) 10 (Plan.takes [6,7,8,9,11,12] .done)) 10 (Plan.takes [5,6,7,8,9,11,12] .done)) 5 (.fork 3 (.fork 6 (Plan.takes [7,8,9,10,11,12] .done) 10 (Plan.takes [6,7,8,9,11,12] .done)) 10 (Plan.takes [3,6,7,8,9,11,12] .done)) 10 (Plan.takes [3,5,6,7,8,9,11,12] .done)))) (by decide +kernel) ?_|refine zP ((Plan.takes [0,1,2,3,4,5,6,7,8,9,11,17,18] (.fork 10 (Plan.takes [12,13,14,15,16,19,20] .done) 12 (Plan.takes [10,13,14,15,16,19,20] .done)))) (by decide +kernel) ?_|refine zP ((Plan.takes [0,1,2,3,4,7] (.forks 5 (.fork 6 (.fork 8 (Plan.takes [9,10,11,12,13,14] .done) 12 (Plan.takes [8,9,10,11,13,14] .done)) 12 (Plan.takes [6,8,9,10,11,13,14] .done)) 6 (.fork 5 (.fork 8 (Plan.takes [9,10,11,12,13,14] .done) 12 (Plan.takes [8,9,10,11,13,14] .done)) 12 (Plan.takes [5,8,9,10,11,13,14] .done)) 12 (Plan.takes [5,6,8,9,10,11,13,14] .done)))) (by decide +kernel) ?_|refine zP ((Plan.takes [0,1,2,3,4,5,6] .done)) (by decide +kernel) ?_|(with_reducible first|refine zR ?_|refine zQ (by decide +kernel) ?_|refine zD (by decide +kernel) ?_|refine zE (by decide +kernel) ?_|refine zG (by decide +kernel) ?_));intro K hK)|((first|refine zA htk ?_ ?_ ?_ ?_ ?_);(focus exact rfl);(focus exact rfl);iterate 2 (focus ((try simp (disch:=omega) only [go_sem,aa,hs0])<;>(try omega)<;>fail)))|((first|refine zN htk rfl ?_ ?_|refine zX htk rfl ?_ ?_|refine zY htk ?_ ?_);(focus ((try simp (disch:=omega) only [go_sem,aa,hs0])<;>(try omega)<;>fail)))|((first|(with_reducible refine aunder_i ?_ ?_<;>intro hg)|with_reducible intro hg)<;>(first|(exfalso;simp at hg;done)|(have hg':=hg;(try simp only [hcs,beq_iff_eq,ge_iff_le,gt_iff_lt] at hg');(try simp only [hg])))))<;>(try simp (disch:=omega) only [go_sem,aa,hs0])<;>(repeat' with_reducible refine And.intro ?_ ?_)<;>(try (with_reducible refine hK _ ?_;clear hK K)))
|omega)
    all_goals first|(exfalso;omega)|skip
    all_goals (refine zV [0,1,2,3,4,5,6,7] rfl rfl rfl rfl ?_ ?_<;>simp (disch:=omega) only [go_sem,aa,Int.natCast_add]<;>(try rfl))
    all_goals exact congrArg (fun b=>AV.d (DV.bool b)) hsf2.symm
   simp only [go_sem]
   by_cases hte:te=0
   case neg=>
    have hF2:=hst hte
    subst hF2
    simp only [ne_eq,hte,not_false_eq_true,if_true]
    (repeat' first
|(with_reducible refine AR.f ?_)
|refine ap (by decide) ?_
|(with_reducible refine AWP.cond rfl ?_ ?_<;>intro hc<;>(try simp only [hcs,beq_iff_eq,ge_iff_le,gt_iff_lt] at hc))
|((first|((first|(with_reducible first|refine zR ?_));intro K hK)|((first|(with_reducible refine aunder_i ?_ ?_<;>intro hg)|with_reducible intro hg)<;>(first|(exfalso;simp at hg;done)|(have hg':=hg;(try simp only [hcs,beq_iff_eq,ge_iff_le,gt_iff_lt] at hg');(try simp only [hg])))))<;>(try simp (disch:=omega) only [go_sem,aa])<;>(repeat' with_reducible refine And.intro ?_ ?_)<;>(try (with_reducible refine hK _ ?_;clear hK K)))
|omega)
    all_goals first|(exfalso;omega)|skip
    all_goals (refine zO ?_ ?_;(focus ((try simp (disch:=omega) only [go_sem,aa,true_and])<;>fail));simp (disch:=omega) only [go_sem,aa,true_and];exact ag.worldV (r:=noR te) (rfl) rfl rfl (by rw [hv.d];rfl))
   subst hte
   (repeat' first
|(with_reducible refine AR.f ?_)
|refine ap (by decide) ?_
|(with_reducible refine AWP.cond rfl ?_ ?_<;>intro hc<;>(try simp only [hcs,beq_iff_eq,ge_iff_le,gt_iff_lt] at hc))
|((first|((first|(with_reducible first|refine zR ?_));intro K hK)|((first|(with_reducible refine aunder_i ?_ ?_<;>intro hg)|with_reducible intro hg)<;>(first|(exfalso;simp at hg;done)|(have hg':=hg;(try simp only [hcs,beq_iff_eq,ge_iff_le,gt_iff_lt] at hg');(try simp only [hg])))))<;>(try simp (disch:=omega) only [go_sem,aa])<;>(repeat' with_reducible refine And.intro ?_ ?_)<;>(try (with_reducible refine hK _ ?_;clear hK K)))
|omega)
   all_goals first|(exfalso;omega)|skip
   have k2:=Iy hv.l.sl hk4
   refine AWP.meetB [0,3,4,9,10,11,12,75] [] [.cells (wC (cw (v.2.1.setS v.1 t1)) 1),.rows 7 (w.done.map ATxn.row),.cells [I kind,I (cl:Int),I server,I rq.op,I rq.session,S rq.path,S rq.data,I rq.version,I rq.flags,I lost,I slow,I keep,B watch],.cells [I 0,I 0,S [],S [],I 0,I 0,I 0,I 0,I 0,I 0,I 0,.d (.sc (.slice none 0 0))],.cells [I rq.op,I (w.c cl).session,S rq.path,S rq.data,I rq.version,I rq.flags],.cells [I x.zxid,I x.op,I x.session,S x.path,S x.data,I x.version,I x.owner],.rows 1 (v.2.2.map nu)] ?_ ?_
   ·(repeat' first
|(with_reducible refine AR.f ?_)
|refine ap (by decide) ?_
|(with_reducible refine AWP.cond rfl ?_ ?_<;>intro hc<;>(try simp only [hcs,beq_iff_eq,ge_iff_le,gt_iff_lt] at hc))
|((first|((first|refine zP ((Plan.takes [0,1,2,3,4,5,6,7,8,9] .done)) (by decide +kernel) ?_|refine zP ((Plan.takes [0,1,2,4] (.forks 3 (.fork 5 (.fork 6 (Plan.takes [7,8,9,10,11,12] .done) 10 (Plan.takes [6,7,8,9,11,12] .done)) 10 (Plan.takes [5,6,7,8,9,11,12] .done)) 5 (.fork 3 (.fork 6 (Plan.takes [7,8,9,10,11,12] .done) 10 (Plan.takes [6,7,8,9,11,12] .done)) 10 (Plan.takes [3,6,7,8,9,11,12] .done)) 10 (Plan.takes [3,5,6,7,8,9,11,12] .done)))) (by decide +kernel) ?_|refine zP ((Plan.takes [0,1,2,3,4,5,6,7,8,9,11,17,18] (.fork 10 (Plan.takes [12,13,14,15,16,19,20] .done) 12 (Plan.takes [10,13,14,15,16,19,20] .done)))) (by decide +kernel) ?_|refine zP ((Plan.takes [0,1,2,3,4,7] (.forks 5 (.fork 6 (.fork 8 (Plan.takes [9,10,11,12,13,14] .done) 12 (Plan.takes [8,9,10,11,13,14] .done)) 12 (Plan.takes [6,8,9,10,11,13,14] .done)) 6 (.fork 5 (.fork 8 (Plan.takes [9,10,11,12,13,14] .done) 12 (Plan.takes [8,9,10,11,13,14] .done)) 12 (Plan.takes [5,8,9,10,11,13,14] .done)) 12 (Plan.takes [5,6,8,9,10,11,13,14] .done)))) (by decide +kernel) ?_|refine zP ((Plan.takes [0,1,2,3,4,5,6] .done)) (by decide +kernel) ?_|(with_reducible first|refine zR ?_|refine zQ (by decide +kernel) ?_|refine zD (by decide +kernel) ?_|refine zE (by decide +kernel) ?_|refine zG (by decide +kernel) ?_));intro K hK)|((first|(with_reducible refine aunder_i ?_ ?_<;>intro hg)|with_reducible intro hg)<;>(first|(exfalso;simp at hg;done)|(have hg':=hg;(try simp only [hcs,beq_iff_eq,ge_iff_le,gt_iff_lt] at hg');(try simp only [hg])))))<;>(try simp (disch:=omega) only [go_sem,aa])<;>(repeat' with_reducible refine And.intro ?_ ?_)<;>(try (with_reducible refine hK _ ?_;clear hK K)))
|omega)
    all_goals first|(exfalso;omega)|skip
    all_goals exact zFr [0,1,2,3,4,5,6] @k2
   simp only [go_sem]
   have hnx:=hnx (fun h=>h rfl)
   cases sf
   ·first
    |contradiction
    |skip
    all_goals (refine zW qs zn @hsf2 (z1 ?_)<;>(repeat with_reducible intro hc))
    all_goals first|(exfalso;omega)|contradiction|skip
    all_goals refine ⟨(v.1+1,v.2.1.setS v.1 t1,v.2.2),hnx,by simp only;omega,?_⟩
    all_goals exact zFr [0,1,2,3,4,5,6] trivial
   ·(repeat' first
|(with_reducible refine AR.f ?_)
|refine ap (by decide) ?_
|(with_reducible refine AWP.cond rfl ?_ ?_<;>intro hc<;>(try simp only [hcs,beq_iff_eq,ge_iff_le,gt_iff_lt] at hc))
|((first|((first|(with_reducible first|refine zR ?_));intro K hK)|((first|(with_reducible refine aunder_i ?_ ?_<;>intro hg)|with_reducible intro hg)<;>(first|(exfalso;simp at hg;done)|(have hg':=hg;(try simp only [hcs,beq_iff_eq,ge_iff_le,gt_iff_lt] at hg');(try simp only [hg])))))<;>(try simp (disch:=omega) only [go_sem,aa,hsf2])<;>(repeat' with_reducible refine And.intro ?_ ?_)<;>(try (with_reducible refine hK _ ?_;clear hK K)))
|omega)
    all_goals first|(exfalso;omega)|skip
    refine ⟨(v.1+1,v.2.1.setS v.1 t1,v.2.2++[v.1]),hnx,by simp only;omega,?_⟩
    exact zFr [0,1,2,3,4,5,8] (zx @List.map_append.{0,0} (zx @List.map_cons.{0,0} (zx @List.map_nil.{0,0} (zx @nu.eq_1 (zx @List.length_append.{0} (zx @List.length_cons.{0} @List.length_nil.{0})))))))
 have hF2:=hv.end hk4
 subst hF2
 simp only [ne_eq,not_true_eq_false,if_false]
 by_cases hlt:v.2.2.length<2
 ·rw [if_pos hlt]
  (refine zW qs (z2 (ic Tryz.func107) (ic Tryz.func108)) trivial (z1 ?_)<;>(repeat with_reducible intro hc))
  all_goals first|(exfalso;omega)|contradiction|(exfalso;simp_all;done)|skip
  all_goals (refine zO ?_ ?_;(focus ((try simp (disch:=omega) only [go_sem,aa,true_and])<;>fail));simp (disch:=omega) only [go_sem,aa,true_and];exact ag.worldV (r:=⟨16,x.zxid,[],[],default,[]⟩) (oo _) rfl rfl (by show _=some (ABlk.rows 7 (v.2.1.done.map ATxn.row));rw [hv.d];rfl))
 rw [if_neg hlt]
 have hcc:∀ i,v.2.1.c i=w.c i:=fun i=>by show v.2.1.cl.getD i default=w.cl.getD i default;rw [hv.c]
 have hcm:=Dw v.2.1 cl x v.2.2 ⟨hv.l,hv.sg,fun i hi=>by rw [hcc];exact hc16 i hi,by rw [hv.d];exact hdn,by rw [hv.ld];omega,⟨by omega,hh2⟩,hcl,by rw [hcc];exact hsx,hxw⟩ (cl:Int) rfl
 unfold inW cN avN at hcm
 rw [hv.d] at hcm
 generalize lJ v.2.1 cl x v.2.2=R at hcm ⊢
 obtain ⟨w',r⟩:=R
 simp only at hcm ⊢
 have hnt:((v.2.2.map nu).drop 0).take v.2.2.length=v.2.2.map nu:=by rw [List.drop_zero];exact List.take_of_length_le (by simp)
 refine AWP.weaken (aM.frz1 10 6 (fun j hj=>⟨by omega,by rcases j with _|_|j<;>first|exact ⟨_,rfl,by simp⟩|omega⟩) rfl rfl (by simp)) ?_
 simp only [go_sem,hnt]
 (refine zW qs (z2 (ac [0,1] hcm) (ic Tryz.func107)) trivial (z1 ?_)<;>(repeat with_reducible intro hc))
 all_goals first|(exfalso;omega)|skip
 refine zO ?_ ?_
 ·simp (disch:=omega) only [go_sem,aa]
 simp (disch:=omega) only [go_sem,aa]
 exact ag.worldM 7 8 (r:=r) rfl rfl rfl (by decide) rfl (by decide)
theorem wE:Pls [Plan.takes [0,1,3,4,7,8,9,10] (.forks 2 (Plan.takes [5] (.forks 6 (.fork 11 (.fork 12 (Plan.takes [13,14,15,16,17,18] .done) 16 (Plan.takes [12,13,14,15,17,18] .done)) 16 (Plan.takes [11,12,13,14,15,17,18] .done)) 11 (.fork 6 (.fork 12 (Plan.takes [13,14,15,16,17,18] .done) 16 (Plan.takes [12,13,14,15,17,18] .done)) 16 (Plan.takes [6,12,13,14,15,17,18] .done)) 16 (Plan.takes [6,11,12,13,14,15,17,18] .done))) 11 (.fork 2 (Plan.takes [5] (.fork 6 (.fork 12 (Plan.takes [13,14,15,16,17,18] .done) 16 (Plan.takes [12,13,14,15,17,18] .done)) 16 (Plan.takes [6,12,13,14,15,17,18] .done))) 16 (Plan.takes [2,5,6,12,13,14,15,17,18] .done)) 16 (Plan.takes [2,5,6,11,12,13,14,15,17,18] .done)),Plan.takes [0,1,2,3,4,5,6,7,8,9,10,11,12,13,14,15] .done,Plan.takes [0,1,2,4,5] (.forks 3 (.fork 6 (.fork 7 (Plan.takes [8,9,10,11,12,13] .done) 11 (Plan.takes [7,8,9,10,12,13] .done)) 11 (Plan.takes [6,7,8,9,10,12,13] .done)) 6 (.fork 3 (.fork 7 (Plan.takes [8,9,10,11,12,13] .done) 11 (Plan.takes [7,8,9,10,12,13] .done)) 11 (Plan.takes [3,7,8,9,10,12,13] .done)) 11 (Plan.takes [3,6,7,8,9,10,12,13] .done)),Plan.takes [0,1,2,3,4,5,6,7] .done,Plan.takes [0,1,2,3,4,5,6,7,8,9,10,11,12,13] .done]:=pls _
structure RdOk (w:AWorld):Prop where
 l:WL w
 t:∀ i,i<3→(w.s i).tree.nodes.length*88≤140737488351232∧aV (aK (w.s i).tree)
 v:∀ i,i<3→(w.s i).watches.length≤100000
 c:∀ i,i<16→(w.c i).cache.length≤100000∧aV ((w.c i).cache.map AEntry.path)
theorem Dg {c:AClient} {z:Int} (h:(gI c z).2=0):(gI c z).1.cache=c.cache∧(gI c z).1.session=c.session:=by
 unfold gI at h ⊢
 by_cases hz:z<c.seen
 ·rw [if_pos hz] at h;exact absurd h (by decide)
 ·rw [if_neg hz];exact ⟨rfl,rfl⟩
theorem Ht {w:AWorld} {kind:Int} {k i:Nat} {rq:ARequest} {lost slow keep:Int} {watch:Bool} (h1:¬ ((k:Int)<0∨16≤(k:Int)∨(i:Int)<0∨3≤(i:Int))) {n:ANode×Int} {c:AClient×Int} (hn:aX (w.s i).tree rq.path=n) (hc:gI (w.c k) (w.s i).tree.zxid=c) :
  iO w ⟨kind,k,i,rq,lost,slow,keep,watch⟩=if (w.s i).up=false then (w,noR 14) else if c.2≠0 then (w,noR c.2) else
   if watch=true then if (jj (w.s i).watches ⟨c.1.session,1,rq.path⟩).2≠0 then (w,noR (jj (w.s i).watches ⟨c.1.session,1,rq.path⟩).2) else
    ((w.setS i { w.s i with watches:=(jj (w.s i).watches ⟨c.1.session,1,rq.path⟩).1 }).setC k ⟨c.1.session,c.1.seen,iz c.1.cache ⟨rq.path,n.1.data,decide (n.2=0)⟩⟩,⟨n.2,(w.s i).tree.zxid,n.1.path,n.1.data,n.1.stat,[]⟩)
   else (w.setC k c.1,⟨n.2,(w.s i).tree.zxid,n.1.path,n.1.data,n.1.stat,[]⟩):=by
 subst hn hc
 unfold iO
 rw [if_neg h1]
 rfl
set_option maxHeartbeats 16000000 in
theorem Il (w:AWorld) (d:ADeed) (hw:RdOk w) (hdw:d.wf):ab Tryz.prog (inW w) 56 [.ptr 0 0,d.av] (cN (iO w d).1 (iO w d).2):=by
 obtain ⟨⟨e1,e2,e3⟩,ht,hv,hc16⟩:=hw
 obtain ⟨kind,client,server,rq,lost,slow,keep,watch⟩:=d
 obtain ⟨_,hcI,hsI,hrq,_,_,_,_⟩:=hdw
 simp only at hcI hsI hrq
 by_cases h1:client<0∨16≤client∨server<0∨3≤server
 ·unfold iO
  simp only
  rw [if_pos h1]
  have hcb:(decide (client<0)||decide (16≤client)||decide (server<0)||decide (3≤server))=true:=by rcases h1 with h|h|h|h<;>simp [h]
  unfold inW cN
  refine zJ Tryz.func56 Tryz.ntmps56 Tryz.results56 ?_;simp only [go_sem]
  (refine zW qs zn @hcb (z1 ?_)<;>(repeat with_reducible intro hc))
  all_goals first|(exfalso;omega)|contradiction|(exfalso;simp_all;done)|skip
  all_goals (refine zO ?_ ?_;(focus ((try simp (disch:=omega) only [go_sem,aa])<;>fail));simp (disch:=omega) only [go_sem,aa];exact ag.worldV (r:=noR 3) (rfl) rfl rfl rfl)
 obtain ⟨k,rfl⟩:∃ k:Nat,client=(k:Int):=⟨client.toNat,by omega⟩
 obtain ⟨i,rfl⟩:∃ i:Nat,server=(i:Int):=⟨server.toNat,by omega⟩
 have hk:k<16:=by omega
 have hi:i<3:=by omega
 have hcb:(decide ((k:Int)<0)||decide (16≤(k:Int))||decide ((i:Int)<0)||decide (3≤(i:Int)))=false:=by rw [decide_eq_false (by omega),decide_eq_false (by omega),decide_eq_false (by omega),decide_eq_false (by omega)];rfl
 have hti:=ht i hi
 have hvi:=hv i hi
 have hck:=hc16 k hk
 have hgt:=jg (w.s i).tree rq.path hti.1 hti.2
 have hsc:=JK (w.c k) (w.s i).tree.zxid (by omega)
 have hse:=@Dg (w.c k) (w.s i).tree.zxid
 have hrd:=@Ht w kind k i rq lost slow keep watch h1 _ _ rfl rfl
 rw [hrd]
 clear hrd
 generalize aX (w.s i).tree rq.path=gq at hgt ⊢
 obtain ⟨gn,ge⟩:=gq
 generalize gI (w.c k) (w.s i).tree.zxid=sq at hsc hse ⊢
 obtain ⟨c,ce⟩:=sq
 simp only at hgt hsc hse ⊢
 unfold inW cN
 refine zJ Tryz.func56 Tryz.ntmps56 Tryz.results56 ?_;simp only [go_sem]
 (refine zW qs zn @hcb (z1 ?_)<;>(repeat with_reducible intro hc))
 all_goals first|(exfalso;omega)|contradiction|(exfalso;simp_all;done)|skip
 refine AWP.meetB [0,3,4] [(5,.ptr 0 (i*10))] [.cells (wC (cw w) 1),.rows 7 (w.done.map ATxn.row),.cells [I kind,I (k:Int),I (i:Int),I rq.op,I rq.session,S rq.path,S rq.data,I rq.version,I rq.flags,I lost,I slow,I keep,B watch],.cells [I 0,I 0,S [],S [],I 0,I 0,I 0,I 0,I 0,I 0,I 0,.d (.sc (.slice none 0 0))]] ?_ ?_
 ·(refine zW qw zn trivial (z1 ?_)<;>(repeat with_reducible intro hc))
  all_goals first|(exfalso;omega)|skip
  all_goals exact zFr [0,1,2,3] trivial
 simp only [go_sem]
 by_cases hup:(w.s i).up=false
 ·rw [if_pos hup]
  (refine zW qs zn @hup (z1 ?_)<;>(repeat with_reducible intro hc))
  all_goals first|(exfalso;omega)|contradiction|(exfalso;simp_all;done)|skip
  all_goals (refine zO ?_ ?_;(focus ((try simp (disch:=omega) only [go_sem,aa])<;>fail));simp (disch:=omega) only [go_sem,aa];exact ag.worldV (r:=noR 14) (rfl) rfl rfl rfl)
 rw [if_neg hup]
 have hup2:(w.s i).up=true:=by simpa using hup
 (refine zW qs zn @hup2 (z1 ?_)<;>(repeat with_reducible intro hc))
 all_goals first|(exfalso;omega)|contradiction|(exfalso;simp_all;done)|skip
 refine AWP.meetB [0,3,4,5] [(6,.ptr 4 0),(7,I ce)] [.cells (wC (cw w) 1),.rows 7 (w.done.map ATxn.row),.cells [I kind,I (k:Int),I (i:Int),I rq.op,I rq.session,S rq.path,S rq.data,I rq.version,I rq.flags,I lost,I slow,I keep,B watch],.cells [I 0,I 0,S [],S [],I 0,I 0,I 0,I 0,I 0,I 0,I 0,.d (.sc (.slice none 0 0))],.cells [I c.session,I c.seen,.d (.sl 3 (c.cache.map AEntry.row))]] ?_ ?_
 ·(refine zW qw (z2 wE hsc) trivial (zc ?_ (zc ?_ (zc ?_ (zc ?_ (zc ?_ (zc ?_ (zc ?_ (zc ?_ (z4 ?_ ?_ ?_ ?_)))))))))<;>(repeat with_reducible intro hc))
  all_goals first|(exfalso;omega)|skip
  all_goals exact zFr [0,1,2,3,4] trivial
 simp only [go_sem]
 by_cases hce:ce=0
 case neg=>
  rw [if_pos hce]
  (refine zW qs zn trivial (z1 ?_)<;>(repeat with_reducible intro hc))
  all_goals first|(exfalso;omega)|contradiction|(exfalso;simp_all;done)|skip
  all_goals (refine zO ?_ ?_;(focus ((try simp (disch:=omega) only [go_sem,aa])<;>fail));simp (disch:=omega) only [go_sem,aa];exact ag.worldV (r:=noR ce) (rfl) rfl rfl rfl)
 subst hce
 rw [if_neg (fun h=>h rfl)]
 obtain ⟨hcc,hcs⟩:=hse rfl
 cases watch
 ·rw [if_neg (by decide)]
  have k3:=Kh e3 hk
  (refine zW qs zn trivial (z3 ?_ ?_ ?_)<;>(repeat with_reducible intro hc))
  all_goals first|(exfalso;omega)|contradiction|(exfalso;simp_all;done)|skip
  refine AWP.meetB [0,3,4,5,6] [(7,I ge),(10,.ptr 5 0)] [.cells (wC (cw w) 1),.rows 7 (w.done.map ATxn.row),.cells [I kind,I (k:Int),I (i:Int),I rq.op,I rq.session,S rq.path,S rq.data,I rq.version,I rq.flags,I lost,I slow,I keep,B false],.cells [I 0,I 0,S [],S [],I 0,I 0,I 0,I 0,I 0,I 0,I 0,.d (.sc (.slice none 0 0))],.cells [I c.session,I c.seen,.d (.sl 3 (c.cache.map AEntry.row))],.cells [S gn.path,S gn.data,I gn.stat.czxid,I gn.stat.mzxid,I gn.stat.pzxid,I gn.stat.version,I gn.stat.cversion,I gn.stat.owner,I gn.stat.kids]] ?_ ?_
  ·(refine zW qw (z2 wE hgt) trivial (zc ?_ (zc ?_ (zc ?_ (z4 ?_ ?_ ?_ ?_))))<;>(repeat with_reducible intro hc))
   all_goals first|(exfalso;omega)|skip
   all_goals exact zFr [0,1,2,3,4,5] trivial
  simp only [go_sem]
  (repeat' first
|(with_reducible refine AR.f ?_)
|refine ap (by decide) ?_
|(with_reducible refine AWP.cond rfl ?_ ?_<;>intro hc<;>(try simp only [hcs,beq_iff_eq,ge_iff_le,gt_iff_lt] at hc))
|((first|((first|(with_reducible first|refine zR ?_));intro K hK)|((first|(with_reducible refine aunder_i ?_ ?_<;>intro hg)|with_reducible intro hg)<;>(first|(exfalso;simp at hg;done)|(have hg':=hg;(try simp only [hcs,beq_iff_eq,ge_iff_le,gt_iff_lt] at hg');(try simp only [hg])))))<;>(try simp (disch:=omega) only [go_sem,aa])<;>(repeat' with_reducible refine And.intro ?_ ?_)<;>(try (with_reducible refine hK _ ?_;clear hK K)))
|omega)
  all_goals first|(exfalso;omega)|contradiction|(exfalso;simp_all;done)|skip
  refine AWP.meetB [0,3,4,5,6,7,10] [] [.cells (wC (cw (w.setC k c)) 1),.rows 7 (w.done.map ATxn.row),.cells [I kind,I (k:Int),I (i:Int),I rq.op,I rq.session,S rq.path,S rq.data,I rq.version,I rq.flags,I lost,I slow,I keep,B false],.cells [I 0,I 0,S [],S [],I 0,I 0,I 0,I 0,I 0,I 0,I 0,.d (.sc (.slice none 0 0))],.cells [I c.session,I c.seen,.d (.sl 3 (c.cache.map AEntry.row))],.cells [S gn.path,S gn.data,I gn.stat.czxid,I gn.stat.mzxid,I gn.stat.pzxid,I gn.stat.version,I gn.stat.cversion,I gn.stat.owner,I gn.stat.kids]] ?_ ?_
  ·(refine zW qw (z1 wE) trivial (z1 ?_)<;>(repeat with_reducible intro hc))
   all_goals first|(exfalso;omega)|skip
   all_goals exact zFr [0,1,2,3,4,5] @k3
  simp only [go_sem]
  have hws:(w.setC k c).s=w.s:=rfl
  (refine zW qw (z1 wE) @hws (z1 ?_)<;>(repeat with_reducible intro hc))
  all_goals first|(exfalso;omega)|contradiction|(exfalso;simp_all;done)|skip
  all_goals (refine zO ?_ ?_;(focus ((try simp (disch:=omega) only [go_sem,aa])<;>fail));simp (disch:=omega) only [go_sem,aa];exact ag.worldV (r:=⟨ge,(w.s i).tree.zxid,gn.path,gn.data,gn.stat,[]⟩) (rfl) rfl rfl rfl)
 ·rw [if_pos rfl]
  have had:=LR (w.s i).watches ⟨c.session,1,rq.path⟩ (by omega) hrq.2.2.1
  generalize jj (w.s i).watches ⟨c.session,1,rq.path⟩=aq at had ⊢
  obtain ⟨wl,ae⟩:=aq
  simp only at had ⊢
  (refine zW qs zn trivial (z3 ?_ ?_ ?_)<;>(repeat with_reducible intro hc))
  all_goals first|(exfalso;omega)|contradiction|(exfalso;simp_all;done)|skip
  refine AWP.meetB [0,3,4,5,6] [(8,.d (.sl 3 (wl.map AWatch.row))),(9,I ae)] [.cells (wC (cw w) 1),.rows 7 (w.done.map ATxn.row),.cells [I kind,I (k:Int),I (i:Int),I rq.op,I rq.session,S rq.path,S rq.data,I rq.version,I rq.flags,I lost,I slow,I keep,B true],.cells [I 0,I 0,S [],S [],I 0,I 0,I 0,I 0,I 0,I 0,I 0,.d (.sc (.slice none 0 0))],.cells [I c.session,I c.seen,.d (.sl 3 (c.cache.map AEntry.row))]] ?_ ?_
  ·(refine zW qw (z2 wE had) trivial (z1 ?_)<;>(repeat with_reducible intro hc))
   all_goals first|(exfalso;omega)|skip
   all_goals exact zFr [0,1,2,3,4] trivial
  simp only [go_sem]
  by_cases hae:ae=0
  case neg=>
   rw [if_pos hae]
   (refine zW qs zn trivial (z2 ?_ ?_)<;>(repeat with_reducible intro hc))
   all_goals first|(exfalso;omega)|contradiction|(exfalso;simp_all;done)|skip
   all_goals (refine zO ?_ ?_;(focus ((try simp (disch:=omega) only [go_sem,aa])<;>fail));simp (disch:=omega) only [go_sem,aa];exact ag.worldV (r:=noR ae) (rfl) rfl rfl rfl)
  subst hae
  rw [if_neg (fun h=>h rfl)]
  (refine zW qs zn trivial (z2 ?_ ?_)<;>(repeat with_reducible intro hc))
  all_goals first|(exfalso;omega)|contradiction|(exfalso;simp_all;done)|skip
  have k1:=Iy e1 hi
  have hws:(w.setS i { w.s i with watches:=wl }).s i={ w.s i with watches:=wl }:=by rw [ez (by omega),if_pos rfl]
  refine AWP.meetB [0,3,4,5,6] [(7,I ge),(10,.ptr 5 0)] [.cells (wC (cw (w.setS i { w.s i with watches:=wl })) 1),.rows 7 (w.done.map ATxn.row),.cells [I kind,I (k:Int),I (i:Int),I rq.op,I rq.session,S rq.path,S rq.data,I rq.version,I rq.flags,I lost,I slow,I keep,B true],.cells [I 0,I 0,S [],S [],I 0,I 0,I 0,I 0,I 0,I 0,I 0,.d (.sc (.slice none 0 0))],.cells [I c.session,I c.seen,.d (.sl 3 (c.cache.map AEntry.row))],.cells [S gn.path,S gn.data,I gn.stat.czxid,I gn.stat.mzxid,I gn.stat.pzxid,I gn.stat.version,I gn.stat.cversion,I gn.stat.owner,I gn.stat.kids]] ?_ ?_
  ·(refine zW qw (z2 wE hgt) trivial (zc ?_ (zc ?_ (zc ?_ (z4 ?_ ?_ ?_ ?_))))<;>(repeat with_reducible intro hc))
   all_goals first|(exfalso;omega)|skip
   all_goals exact zFr [0,1,2,3,4,5] @k1
  simp only [go_sem]
  have hkp:=Jt c ⟨rq.path,gn.data,decide (ge=0)⟩ (by rw [hcc];exact hck.1) (by rw [hcc];exact hck.2)
  have k3:=Kh (w:=w.setS i { w.s i with watches:=wl }) e3 hk
  (refine zW qs (z1 hkp) trivial (z2 ?_ ?_)<;>(repeat with_reducible intro hc))
  all_goals first|(exfalso;omega)|contradiction|(exfalso;simp_all;done)|skip
  refine AWP.meetB [0,3,4,5,6,7,10] [] [.cells (wC (cw ((w.setS i { w.s i with watches:=wl }).setC k ⟨c.session,c.seen,iz c.cache ⟨rq.path,gn.data,decide (ge=0)⟩⟩)) 1),.rows 7 (w.done.map ATxn.row),.cells [I kind,I (k:Int),I (i:Int),I rq.op,I rq.session,S rq.path,S rq.data,I rq.version,I rq.flags,I lost,I slow,I keep,B true],.cells [I 0,I 0,S [],S [],I 0,I 0,I 0,I 0,I 0,I 0,I 0,.d (.sc (.slice none 0 0))],.cells [I c.session,I c.seen,.d (.sl 3 ((iz c.cache ⟨rq.path,gn.data,decide (ge=0)⟩).map AEntry.row))],.cells [S gn.path,S gn.data,I gn.stat.czxid,I gn.stat.mzxid,I gn.stat.pzxid,I gn.stat.version,I gn.stat.cversion,I gn.stat.owner,I gn.stat.kids]] ?_ ?_
  ·(refine zW qw (z1 wE) trivial (z1 ?_)<;>(repeat with_reducible intro hc))
   all_goals first|(exfalso;omega)|skip
   all_goals exact zFr [0,1,2,3,4,5] @k3
  simp only [go_sem]
  have hws2:((w.setS i { w.s i with watches:=wl }).setC k ⟨c.session,c.seen,iz c.cache ⟨rq.path,gn.data,decide (ge=0)⟩⟩).s=(w.setS i { w.s i with watches:=wl }).s:=rfl
  (refine zW qw (z1 wE) (zx @hws2 @hws) (z1 ?_)<;>(repeat with_reducible intro hc))
  all_goals first|(exfalso;omega)|contradiction|(exfalso;simp_all;done)|skip
  all_goals (refine zO ?_ ?_;(focus ((try simp (disch:=omega) only [go_sem,aa])<;>fail));simp (disch:=omega) only [go_sem,aa];exact ag.worldV (r:=⟨ge,(w.s i).tree.zxid,gn.path,gn.data,gn.stat,[]⟩) (rfl) rfl rfl rfl)
theorem cX.log {w:AWorld} {n:Nat} (h:cX w n) {j:Nat} (hj:j<3):(w.s j).peer.log.length≤n:=by
 obtain ⟨⟨g,es,K,h1⟩,_,_⟩:=h
 obtain ⟨_,hu,hd⟩:=h1.sv j hj
 cases e:(w.s j).up
 ·obtain ⟨_,_,hk,_⟩:=hd e
  rw [hk.log];exact Nat.zero_le _
 ·obtain ⟨_,_,_,hlg,_⟩:=hu e
  rw [hlg];exact h1.small j hj
theorem cX.few {w:AWorld} {n:Nat} (h:cX w n):w.done.length≤n:=by
 obtain ⟨⟨g,es,K,h1⟩,_,_⟩:=h
 obtain ⟨i,j,hi,_,_,⟨_,ha⟩,_⟩:=h1.pr.k1
 exact Nat.le_trans h1.ack.length_le (Nat.le_trans ha (Nat.le_trans (h1.pr.al i hi) (h1.small i hi)))
theorem cX.wl {w:AWorld} {n:Nat} (h:cX w n):WL w:=by
 obtain ⟨⟨g,es,K,h1⟩,_,_⟩:=h
 exact ⟨h1.sl,h1.fl,h1.cl⟩
theorem cX.ld {w:AWorld} {n:Nat} (h:cX w n):w.leader<3:=by
 obtain ⟨⟨g,es,K,h1⟩,_,_⟩:=h
 by_cases hl:0≤w.leader
 ·exact (h1.pr.ld0 hl).1
 ·omega
theorem cX.sgs {w:AWorld} {n:Nat} (h:cX w n) (hn:n<1000) {j:Nat} (hj:j<3):SG (w.s j):=by
 obtain ⟨a,b,c,d,e⟩:=h.server hn hj
 exact ⟨⟨a,b,fun x hx=>by have:=(d x hx).2;omega⟩,c,e.1⟩
theorem cX.cache {w:AWorld} {n:Nat} (h:cX w n) (hn:n<1000) {i:Nat} (hi:i<16):(w.c i).cache.length≤100000∧aV ((w.c i).cache.map AEntry.path):=by
 obtain ⟨_,_,a,b,_⟩:=h.client hn hi
 exact ⟨by omega,a⟩
theorem cX.el {w:AWorld} {n:Nat} (h:cX w n) (hn:n<1000):ElOk w:=
 ⟨h.wl,fun _ hi=>(h.sgs hn hi).gs,fun i hi=>by have:=h.log hi;omega,fun _ hi=>(h.sgs hn hi).v,fun _ hi=>h.cache hn hi,by have:=h.few;omega⟩
theorem cX.rd {w:AWorld} {n:Nat} (h:cX w n) (hn:n<1000):RdOk w:=
 ⟨h.wl,fun _ hi=>⟨(h.sgs hn hi).gs.t.1.2.1.1,aZ (h.sgs hn hi).g⟩,fun _ hi=>by have:=(h.sgs hn hi).v;omega,fun _ hi=>h.cache hn hi⟩
theorem cX.wr {w:AWorld} {n:Nat} (h:cX w n) (hn:n<1000):WrOk w:=by
 refine ⟨h.wl,fun _ hi=>h.sgs hn hi,fun i hi=>by have:=h.log hi;omega,fun _ hi=>h.cache hn hi,fun i hi=>(h.client hn hi).1.1,by have:=h.few;omega,h.ld,fun i hi hl0=>.inl ?_⟩
 obtain ⟨⟨g,es,K,h⟩,_,_⟩:=h
 obtain ⟨hl3,hlE⟩:=h.pr.ld0 hl0
 have hli:w.leader.toNat<3:=by omega
 obtain ⟨hlf,hldone⟩:=h.lead hl0
 obtain ⟨hlu,_⟩:=h.fol hl0 _ hli hlf
 obtain ⟨ee,he,hk,hlg,hep⟩:=(h.sv _ hli).2.1 hlu
 obtain ⟨z0,z1,z2⟩:=h.lastOk hli
 obtain ⟨n1,n2,n3,n4⟩:=AL (p:=(w.s w.leader.toNat).peer) (n:=n) (by omega) h.pr.es0 h.pr.esn (by rw [hep,hlE]) (by rw [hlg];exact z0) (by rw [hlg];exact z1) (by rw [hlg];exact z2)
 rw [hlg] at n4
 rcases (h.cli _ hi).2.2.2.2 hl0 with a|a<;>omega
theorem cX.deed {w:AWorld} {n:Nat} (h:cX w n) (d:Int):cX { w with deeds:=d } n:=by
 obtain ⟨⟨g,es,K,h1⟩,h2,h3⟩:=h
 exact ⟨⟨g,es,K,h1.deeds d⟩,h2,h3⟩
set_option maxHeartbeats 16000000 in
theorem AM (w:AWorld) (d:ADeed) (n:Nat) (h:cX w n) (hn:n<1000) (h0:0≤w.deeds) (hdw:d.wf) (hdp:d.request.path.length≤1048576):ab Tryz.prog (inW w) 17 [.ptr 0 0,d.av] (cN (doW w d).1 (doW w d).2):=by
 unfold doW
 by_cases h3:300≤w.deeds
 ·rw [if_pos h3]
  unfold inW cN
  refine zJ Tryz.func17 Tryz.ntmps17 Tryz.results17 ?_;simp only [go_sem]
  (refine zW qw zn trivial (z1 ?_)<;>(repeat with_reducible intro hc))
  all_goals first|(exfalso;omega)|contradiction|(exfalso;simp_all;done)|skip
  all_goals (refine zO ?_ ?_;(focus ((try simp (disch:=omega) only [go_sem,aa])<;>fail));simp (disch:=omega) only [go_sem,aa];exact ag.worldV (r:=noR 6) (rfl) rfl rfl rfl)
 rw [if_neg h3]
 have h:=h.deed (w.deeds+1)
 have hwr:=Fk { w with deeds:=w.deeds+1 } d (h.wr hn) hdw hdp
 have hrd:=Il { w with deeds:=w.deeds+1 } d (h.rd hn) hdw
 have hel:=FE { w with deeds:=w.deeds+1 } (h.el hn)
 have hcr:=fun i hi ii hii=>FM { w with deeds:=w.deeds+1 } i d.keep hi h.wl (h.server hn hi).1 ii hii
 have hup:=fun i hi ii hii=>Lt { w with deeds:=w.deeds+1 } i hi h.wl (h.server hn hi).1 ii hii
 have k1:(cw w).setD (w.deeds+1)=cw { w with deeds:=w.deeds+1 }:=rfl
 have k2:w.done=({ w with deeds:=w.deeds+1 }:AWorld).done:=rfl
 generalize ({ w with deeds:=w.deeds+1 }:AWorld)=w' at hwr hrd hel hcr hup k1 k2 ⊢
 unfold pC
 by_cases q1:d.kind=1
 ·rw [if_pos q1]
  unfold inW cN avN at hwr
  unfold inW cN
  generalize d6 w' d=R at hwr ⊢
  obtain ⟨u,r⟩:=R
  simp only at hwr ⊢
  refine zJ Tryz.func17 Tryz.ntmps17 Tryz.results17 ?_;simp only [go_sem]
  (refine zW qw (z1 (ac [0,1] hwr)) (zx @k1 @k2) (z1 ?_)<;>(repeat with_reducible intro hc))
  all_goals first|(exfalso;omega)|contradiction|(exfalso;simp_all;done)|skip
  refine zO ?_ ?_
  ·simp (disch:=omega) only [go_sem,aa]
  simp (disch:=omega) only [go_sem,aa]
  exact ag.worldM 4 5 (r:=r) rfl rfl rfl (by decide) rfl (by decide)
 rw [if_neg q1]
 by_cases q2:d.kind=2
 ·rw [if_pos q2]
  unfold inW cN avN at hrd
  unfold inW cN
  generalize iO w' d=R at hrd ⊢
  obtain ⟨u,r⟩:=R
  simp only at hrd ⊢
  refine zJ Tryz.func17 Tryz.ntmps17 Tryz.results17 ?_;simp only [go_sem]
  (refine zW qw (z1 (ac [0,1] hrd)) (zx @k1 @k2) (z1 ?_)<;>(repeat with_reducible intro hc))
  all_goals first|(exfalso;omega)|contradiction|(exfalso;simp_all;done)|skip
  refine zO ?_ ?_
  ·simp (disch:=omega) only [go_sem,aa]
  simp (disch:=omega) only [go_sem,aa]
  exact ag.worldM 4 5 (r:=r) rfl rfl rfl (by decide) rfl (by decide)
 rw [if_neg q2]
 by_cases q5:d.kind=5
 ·rw [if_pos q5]
  unfold inW cN avN at hel
  unfold inW cN
  generalize dv w'=R at hel ⊢
  obtain ⟨u,r⟩:=R
  simp only at hel ⊢
  refine zJ Tryz.func17 Tryz.ntmps17 Tryz.results17 ?_;simp only [go_sem]
  (refine zW qw (z1 (ac [0,1] hel)) (zx @k1 @k2) (z1 ?_)<;>(repeat with_reducible intro hc))
  all_goals first|(exfalso;omega)|contradiction|(exfalso;simp_all;done)|skip
  refine zO ?_ ?_
  ·simp (disch:=omega) only [go_sem,aa]
  simp (disch:=omega) only [go_sem,aa]
  exact ag.worldM 4 5 (r:=r) rfl rfl rfl (by decide) rfl (by decide)
 rw [if_neg q5]
 by_cases q3:d.kind=3∨d.kind=4
 case neg=>
  rw [if_neg q3]
  unfold inW cN
  refine zJ Tryz.func17 Tryz.ntmps17 Tryz.results17 ?_;simp only [go_sem]
  (refine zW qw zn (zx @k1 @k2) (z1 ?_)<;>(repeat with_reducible intro hc))
  all_goals first|(exfalso;omega)|contradiction|(exfalso;simp_all;done)|skip
  all_goals (refine zO ?_ ?_;(focus ((try simp (disch:=omega) only [go_sem,aa])<;>fail));simp (disch:=omega) only [go_sem,aa];exact ag.worldV (r:=noR 4) (rfl) rfl rfl rfl)
 rw [if_pos q3]
 by_cases hs:d.server<0∨3≤d.server
 ·rw [if_pos hs]
  unfold inW cN
  refine zJ Tryz.func17 Tryz.ntmps17 Tryz.results17 ?_;simp only [go_sem]
  (refine zW qw zn (zx @k1 @k2) (z2 ?_ ?_)<;>(repeat with_reducible intro hc))
  all_goals first|(exfalso;omega)|contradiction|(exfalso;simp_all;done)|skip
  all_goals (refine zO ?_ ?_;(focus ((try simp (disch:=omega) only [go_sem,aa])<;>fail));simp (disch:=omega) only [go_sem,aa];exact ag.worldV (r:=noR 3) (rfl) rfl rfl rfl)
 rw [if_neg hs]
 have hi:d.server.toNat<3:=by omega
 by_cases q4:d.kind=4
 ·rw [if_pos q4]
  have hup:=hup d.server.toNat hi d.server (by omega)
  unfold inW cN avN at hup
  unfold inW cN
  generalize upW w' d.server.toNat=R at hup ⊢
  obtain ⟨u,r⟩:=R
  simp only at hup ⊢
  refine zJ Tryz.func17 Tryz.ntmps17 Tryz.results17 ?_;simp only [go_sem]
  (refine zW qw (z1 (ac [0,1] hup)) (zx @k1 @k2) (z1 ?_)<;>(repeat with_reducible intro hc))
  all_goals first|(exfalso;omega)|contradiction|(exfalso;simp_all;done)|skip
  refine zO ?_ ?_
  ·simp (disch:=omega) only [go_sem,aa]
  simp (disch:=omega) only [go_sem,aa]
  exact ag.worldM 4 5 (r:=r) rfl rfl rfl (by decide) rfl (by decide)
 rw [if_neg q4]
 ·have hcr:=hcr d.server.toNat hi d.server (by omega)
  unfold inW cN avN at hcr
  unfold inW cN
  generalize gW w' d.server.toNat d.keep=R at hcr ⊢
  obtain ⟨u,r⟩:=R
  simp only at hcr ⊢
  refine zJ Tryz.func17 Tryz.ntmps17 Tryz.results17 ?_;simp only [go_sem]
  (refine zW qw (z1 (ac [0,1] hcr)) (zx @k1 @k2) (z1 ?_)<;>(repeat with_reducible intro hc))
  all_goals first|(exfalso;omega)|contradiction|(exfalso;simp_all;done)|skip
  refine zO ?_ ?_
  ·simp (disch:=omega) only [go_sem,aa]
  simp (disch:=omega) only [go_sem,aa]
  exact ag.worldM 4 5 (r:=r) rfl rfl rfl (by decide) rfl (by decide)
theorem Ly:Pls [Plan.takes [0,1,2,3,8,9,4,5,6,7,10,11] .done,Plan.takes [0,1,2,3,8,9,4,5,6,7,10,11] .done]:=pls _
def zS:AServer:=⟨false,⟨[]⟩,⟨0,0,[],0⟩,⟨0,[],[]⟩,[]⟩
def zC:AClient:=⟨0,0,[]⟩
def nW (a b:Nat):CW:=⟨fun j=>if j<a then (cK (j:Int) []).1 else zS,fun j=>if j<b then ⟨(j:Int)+1,0,[]⟩ else zC,-1,fun _=>false,0,0⟩
theorem nW_s (a b:Nat):(nW a b).setS a (cK (a:Int) []).1=nW (a+1) b:=by
 have:(fun j=>if j=a then (cK (a:Int) []).1 else (nW a b).s j)=(nW (a+1) b).s:=funext fun j=>by
  show _=if j<a+1 then (cK (j:Int) []).1 else zS
  by_cases e:j=a
  ·subst e;rw [if_pos rfl,if_pos (by omega)]
  ·rw [if_neg e]
   show (if j<a then (cK (j:Int) []).1 else zS)=_
   by_cases h:j<a
   ·rw [if_pos h,if_pos (by omega)]
   ·rw [if_neg h,if_neg (by omega)]
 show CW.mk _ _ _ _ _ _=_
 rw [this];rfl
theorem nW_c (a b:Nat):(nW a b).setC b ⟨(b:Int)+1,0,[]⟩=nW a (b+1):=by
 have:(fun j=>if j=b then (⟨(b:Int)+1,0,[]⟩:AClient) else (nW a b).c j)=(nW a (b+1)).c:=funext fun j=>by
  show _=if j<b+1 then (⟨(j:Int)+1,0,[]⟩:AClient) else zC
  by_cases e:j=b
  ·subst e;rw [if_pos rfl,if_pos (by omega)]
  ·rw [if_neg e]
   show (if j<b then (⟨(j:Int)+1,0,[]⟩:AClient) else zC)=_
   by_cases h:j<b
   ·rw [if_pos h,if_pos (by omega)]
   ·rw [if_neg h,if_neg (by omega)]
 show CW.mk _ _ _ _ _ _=_
 rw [this];rfl
theorem JX (k:Nat):wC (nW 3 16) k=wC (cw dQ) k:=by
 unfold wC
 rfl
theorem IY {k:Nat} (h:k<16):Ep ((k:Int)+1)=(⟨(k:Int)+1,0,[]⟩,0):=by
 unfold Ep
 rw [if_neg (by omega)]
theorem nW_z (k:Nat):wC (nW 0 0) k=[.d (.bool false),.d (.sl 3 []),I 0,I 0,.d (.sl 7 []),I 0,I 0,.d (.sl 9 []),.d (.sl 1 []),.d (.sl 3 []),.d (.bool false),.d (.sl 3 []),I 0,I 0,.d (.sl 7 []),I 0,I 0,.d (.sl 9 []),.d (.sl 1 []),.d (.sl 3 []),.d (.bool false),.d (.sl 3 []),I 0,I 0,.d (.sl 7 []),I 0,I 0,.d (.sl 9 []),.d (.sl 1 []),.d (.sl 3 []),
 I 0,I 0,.d (.sl 3 []),I 0,I 0,.d (.sl 3 []),I 0,I 0,.d (.sl 3 []),I 0,I 0,.d (.sl 3 []),I 0,I 0,.d (.sl 3 []),I 0,I 0,.d (.sl 3 []),I 0,I 0,.d (.sl 3 []),I 0,I 0,.d (.sl 3 []),I 0,I 0,.d (.sl 3 []),I 0,I 0,.d (.sl 3 []),I 0,I 0,.d (.sl 3 []),I 0,I 0,.d (.sl 3 []),I 0,I 0,.d (.sl 3 []),I 0,I 0,.d (.sl 3 []),I 0,I 0,.d (.sl 3 []),I 0,I 0,.d (.sl 3 []),
 I (-1),B false,B false,B false,.osl k 7 0 0,I 0]:=rfl
set_option maxHeartbeats 16000000 in
theorem zu:ab Tryz.prog [] 16 [] (cY (.ptr 0 0) [.cells (wC (cw dQ) 1),.rows 7 []]):=by
 refine zJ Tryz.func16 Tryz.ntmps16 Tryz.results16 ?_;simp only [go_sem]
 (refine zW qw zn trivial (z1 ?_)<;>(repeat with_reducible intro hc))
 refine AWP.weaken (aM.trans (aM.nilOwnC 0 82 7 rfl rfl) (aM.coeB (cs':=wC (nW 0 0) 1) 0 rfl (by rw [nW_z];simp (disch:=omega) only [go_sem,aa];exact sI _))) ?_
 simp only [go_sem]
 refine AWP.loopB (ι:=Nat) (fun v=>v≤3) (fun v=>3-v) [1] (fun v=>[(6,I v)]) (fun v=>[.cells (wC (nW v 0) 1),.rows 7 []]) 0 ?_ ?_ ?_
 ·exact Nat.zero_le _
 ·simp only [go_sem];exact zFr [0,1] trivial
 intro v hv
 simp only [go_sem]
 by_cases hk:v<3
 ·have hb:=G5 (v:Int) ⟨[]⟩ (by simp) (fun f hf=>by cases hf)
  have k1:=nW_s v 0
  simp only at hb
  generalize cK (v:Int) []=q at hb k1
  obtain ⟨s,e⟩:=q
  simp only at hb k1
  (refine zW qw (z2 Ly hb) trivial (z1 ?_)<;>(repeat with_reducible intro hc))
  all_goals first|(exfalso;omega)|contradiction|(exfalso;simp_all;done)|skip
  all_goals (refine ⟨v+1,by omega,by omega,?_⟩;exact zFr [0,1] @k1)
 obtain rfl:v=3:=by omega
 (refine zW qw zn trivial (z1 ?_)<;>(repeat with_reducible intro hc))
 all_goals first|(exfalso;omega)|contradiction|(exfalso;simp_all;done)|skip
 clear hv hk
 refine AWP.loopB (ι:=Nat) (fun v=>v≤16) (fun v=>16-v) [1] (fun v=>[(21,I v)]) (fun v=>[.cells (wC (nW 3 v) 1),.rows 7 []]) 0 ?_ ?_ ?_
 ·exact Nat.zero_le _
 ·simp only [go_sem];exact zFr [0,1] trivial
 intro v hv
 simp only [go_sem]
 by_cases hk:v<16
 ·have hb:=Lf ((v:Int)+1)
  rw [IY hk] at hb
  have k2:=L7 (nW 3 v) 1 v hk ((v:Int)+1) 0 []
  rw [nW_c 3 v,List.map_nil] at k2
  (refine zW qw (z2 Ly hb) trivial (z1 ?_)<;>(repeat with_reducible intro hc))
  all_goals first|(exfalso;omega)|contradiction|(exfalso;simp_all;done)|skip
  all_goals (refine ⟨v+1,by omega,by omega,?_⟩;exact zFr [0,1] @k2)
 obtain rfl:v=16:=by omega
 (refine zW qw zn trivial (z1 ?_)<;>(repeat with_reducible intro hc))
 all_goals first|(exfalso;omega)|contradiction|(exfalso;simp_all;done)|skip
 rw [JX]
 refine zO ?_ ?_
 ·simp (disch:=omega) only [go_sem,aa]
 simp (disch:=omega) only [go_sem,aa]
 exact ag.done rfl rfl
def qt (w:AWorld):List ADeed→AWorld×List AReply
 |[]=>(w,[])
 |d::l=>((qt (doW w d).1 l).1,(doW w d).2::(qt (doW w d).1 l).2)
structure RnInv (l:List ADeed) (v:Nat×AWorld×List AReply):Prop where
 k:v.1≤l.length
 f:v.2.2++(qt v.2.1 (l.drop v.1)).2=(qt dQ l).2
 a:cX v.2.1 v.1
 d:v.2.1.deeds≤v.1
 d0:0≤v.2.1.deeds
 n:v.2.2.length=v.1
theorem oF {w:AWorld} {d:ADeed}:0≤w.deeds→0≤(doW w d).1.deeds∧(doW w d).1.deeds≤w.deeds+1:=by
 intro h0
 by_cases h:w.deeds<300
 ·rw [D8 h];omega
 ·rw [In (by omega)];simp only;omega
theorem RnInv.next {l:List ADeed} {v:Nat×AWorld×List AReply} (h:RnInv l v) (hk:v.1<l.length) (hl:l.length≤300) {u:AWorld} {r:AReply} (hR:doW v.2.1 (l.getD v.1 default)=(u,r)):RnInv l (v.1+1,u,v.2.2++[r]):=by
 obtain ⟨h1,h2,h3,h4,h5,h6⟩:=h
 have hd:l.drop v.1=l.getD v.1 default::l.drop (v.1+1):=by
  rw [List.drop_eq_getElem_cons hk,List.getD_eq_getElem?_getD,List.getElem?_eq_getElem hk];rfl
 rw [hd,qt,hR] at h2
 have ha:=h3.does (by omega) (l.getD v.1 default)
 have hb:=oF (d:=l.getD v.1 default) h5
 rw [hR] at ha hb
 simp only at hb
 exact ⟨hk,by simpa using h2,ha,by simp only;omega,hb.1,by simp only [List.length_append,List.length_singleton];omega⟩
theorem RnInv.end {l:List ADeed} {v:Nat×AWorld×List AReply} (h:RnInv l v) (hk:¬ v.1<l.length):v.2.2=(qt dQ l).2:=by
 have h2:=h.f
 rw [List.drop_eq_nil_of_le (by omega),qt,List.append_nil] at h2
 exact h2
def ff:ADeed:=⟨1,0,0,⟨1,0,[],[],0,0⟩,0,0,0,false⟩
theorem Fi:(doW dQ cP).2.code=0∧(doW dQ cP).1.leader=2∧(doW (doW dQ cP).1 ff).2.code=0∧(doW (doW dQ cP).1 ff).2.zxid=2147483649∧(doW (doW dQ cP).1 ff).1.done.length=1∧(doW dQ cP).1.deeds=1:=by decide +kernel
set_option maxHeartbeats 16000000 in
theorem Jq:ab Tryz.prog [] 65 [] (ret (B true)):=by
 obtain ⟨q1,q2,q3,q4,q5,q6⟩:=Fi
 have a1:=cX.start.does (by decide) cP
 have d1:ab Tryz.prog [.cells (wC (cw dQ) 1),.rows 7 []] 17 [.ptr 0 0,ADeed.av ⟨5,0,0,⟨0,0,[],[],0,0⟩,0,0,0,false⟩] (cN (doW dQ cP).1 (doW dQ cP).2):=AM dQ cP 0 cX.start (by decide) (Int.le_refl _) (by unfold cP ADeed.wf ARequest.wf okI okS;decide) (by decide)
 unfold inW cN avN at d1
 generalize doW dQ cP=R at *
 obtain ⟨u,r⟩:=R
 simp only at q1 q2 q3 q4 q5 q6 a1 d1
 have d2:ab Tryz.prog (inW u) 17 [.ptr 0 0,ADeed.av ⟨1,0,0,⟨1,0,[],[],0,0⟩,0,0,0,false⟩] (cN (doW u ff).1 (doW u ff).2):=AM u ff 1 a1 (by decide) (by omega) (by unfold ff ADeed.wf ARequest.wf okI okS;decide) (by decide)
 have a2:=a1.does (by decide) ff
 have l2:=a2.few
 unfold inW cN avN at d2
 generalize doW u ff=Q at *
 obtain ⟨u2,r2⟩:=Q
 simp only at q3 q4 q5 a2 l2 d2
 have hld:=CX u
 have hak:=Gb u2 (by omega)
 unfold inW at hld hak
 refine zJ Tryz.func65 Tryz.ntmps65 Tryz.results65 ?_;simp only [go_sem]
 (refine zW qw (zc zu (z4 (ad [0,1] d1) (ad [0,2] d2) (ac [0,2] hld) (ac [0,4] hak))) (zx @q1 (zx @q2 (zx @q3 (zx @q4 @q5)))) (z1 ?_)<;>(repeat with_reducible intro hc))
 all_goals first|(exfalso;omega)|contradiction|(exfalso;simp_all;done)|skip
 all_goals exact zEe @q5
structure PlInv (l:List ADeed) (v:Nat×AWorld):Prop where
 k:v.1≤l.length
 m:v.1≤100
 w:v.2=fY dQ (l.take v.1)
 a:cX v.2 v.1
 d0:0≤v.2.deeds
 d1:v.2.deeds≤v.1
theorem ww (w:AWorld) (l:List ADeed) (d:ADeed):fY w (l++[d])=(doW (fY w l) d).1:=by
 unfold fY
 rw [List.foldl_append];rfl
theorem PlInv.start (l:List ADeed):PlInv l (0,dQ):=⟨Nat.zero_le _,Nat.zero_le _,by simp only [List.take_zero];rfl,cX.start,Int.le_refl _,Int.le_refl _⟩
theorem PlInv.next {l:List ADeed} {v:Nat×AWorld} (h:PlInv l v) (hk:v.1<l.length) (hm:v.1<100) {u:AWorld} {r:AReply} (hR:doW v.2 (l.getD v.1 default)=(u,r)):PlInv l (v.1+1,u):=by
 obtain ⟨h1,h2,h3,h4,h5,h6⟩:=h
 have ha:=h4.does (by omega) (l.getD v.1 default)
 have hb:=oF (d:=l.getD v.1 default) h5
 have hw:=ww dQ (l.take v.1) (l.getD v.1 default)
 rw [←cD l _ hk,←h3] at hw
 rw [hR] at ha hb hw
 simp only at hb hw
 exact ⟨hk,hm,hw.symm,ha,hb.1,by simp only;omega⟩
theorem PlInv.end {l:List ADeed} {v:Nat×AWorld} (h:PlInv l v) (hk:¬ (v.1<l.length∧v.1<100)):v.2=fY dQ (l.take 100):=by
 have h1:=h.k
 have h2:=h.m
 rw [h.w]
 by_cases e:v.1=100
 ·rw [e]
 ·rw [List.take_of_length_le (i:=v.1) (by omega),List.take_of_length_le (i:=100) (by omega)]
theorem cX.all:∀ (l:List ADeed) {w:AWorld} {n:Nat},cX w n→n+l.length≤1000→0≤w.deeds→w.deeds≤n→cX (fY w l) (n+l.length)∧0≤(fY w l).deeds∧(fY w l).deeds≤((n+l.length:Nat):Int)
 |[],w,n,h,_,h0,h1=>⟨h,h0,h1⟩
 | d::l,w,n,h,hn,h0,h1=>by
   rw [List.length_cons] at hn ⊢
   have hb:=oF (d:=d) h0
   have:=cX.all l (h.does (by omega) d) (by omega) hb.1 (by omega)
   rw [show n+(l.length+1)=n+1+l.length by omega]
   exact this
structure TrInv (Y:List ATxn) (v:Nat×ATree):Prop where
 k:v.1≤Y.length
 p:bO t00 (Y.take v.1)=some v.2
theorem Lz:Pls [Plan.takes [0,1,2,3,4,5,6,7,8] .done]:=pls _
theorem BQ (w:AWorld) (i:Nat) (hi:i<16) (hs:(w.c i).wf) (ii:Int) (hii:ii=(i:Int)):ab Tryz.prog (inW w) 24 [.ptr 0 0,I ii] (cY (.agg [I (w.c i).session,I (w.c i).seen,.osl 2 3 0 (w.c i).cache.length]) (inW w++[.rows 3 ((w.c i).cache.map AEntry.row)])):=by
 subst hii
 have hl:=hs.2.2.1
 have t1:List.take (w.c i).cache.length ((w.c i).cache.map AEntry.row)=(w.c i).cache.map AEntry.row:=List.take_of_length_le (by simp)
 unfold inW
 refine zJ Tryz.func24 Tryz.ntmps24 Tryz.results24 ?_;simp only [go_sem]
 (refine zW qw zn @t1 (z1 ?_)<;>(repeat with_reducible intro hc))
 all_goals first|(exfalso;omega)|skip
 (refine zO ?_ ?_;(focus ((try simp (disch:=omega) only [go_sem,aa])<;>fail));simp (disch:=omega) only [go_sem,aa,t1,Nat.min_self];refine ag.of_simp ?_ (ag.same ⟨rfl,rfl⟩);refine zV [0,1,4] rfl rfl rfl rfl ?_ ?_<;>simp (disch:=omega) only [go_sem,aa,true_or,or_true,t1,Nat.min_self])
def EI (g:FuncId):Prop:=∀ (w:AWorld) (d:ADeed) (n:Nat),cX w n→n<100→0≤w.deeds→w.deeds≤n→d.wf→d.request.path.length≤1048576→
 ab Tryz.prog [.cells (wC (cw (doW w d).1) 1),.rows 7 ((doW w d).1.done.map ATxn.row),.rows 3 ((doW w d).2.notes.map ANote.row),.cells [.ptr 4 0],.cells (wC (cw w) 5),.rows 7 (w.done.map ATxn.row)] g
  [.ptr 0 0,d.av,avN (doW w d).2 (.osl 2 3 0 (doW w d).2.notes.length),.ptr 3 0]
  (cY (B true) [.cells (wC (cw (doW w d).1) 1),.rows 7 ((doW w d).1.done.map ATxn.row),.dead,.cells [.ptr 4 0],.cells (wC (cw (doW w d).1) 6),.dead,.rows 7 ((doW w d).1.done.map ATxn.row)])
set_option maxHeartbeats 16000000 in
theorem Is (g:FuncId) (hg:EI g) (l:List ADeed) (hl:∀ d,d∈l→d.wf∧d.request.path.length≤1048576) (hll:l.length≤1048576) :
  ab Tryz.prog [.cells [.ptr 1 0],.cells (wC (cw dQ) 2),.rows 7 []] 25 [.d (.sl 13 (l.map ADeed.row)),.clo g [] [.ptr 0 0]]
   (cY (.tup [.ptr 3 0,B true]) [.cells [.ptr 1 0],.cells (wC (cw (fY dQ (l.take 100))) 5),.dead,.cells (wC (cw (fY dQ (l.take 100))) 4),.rows 7 ((fY dQ (l.take 100)).done.map ATxn.row),.rows 7 ((fY dQ (l.take 100)).done.map ATxn.row)]):=by
 refine zJ Tryz.func25 Tryz.ntmps25 Tryz.results25 ?_;simp only [go_sem]
 (refine zW qw (z2 Jq zu) trivial (z1 ?_)<;>(repeat with_reducible intro hc))
 all_goals first|(exfalso;omega)|contradiction|(exfalso;simp_all;done)|skip
 refine AWP.weaken (aM.moveOwnC 1 82 (by rfl) (Fj (cw dQ) 2) (by rfl) (by simp) (by decide)) ?_
 simp only [go_sem,uw]
 refine AWP.loopB (ι:=Nat×AWorld) (fun v=>PlInv l v) (fun v=>l.length-v.1) [0,1,6] (fun v=>[(7,I v.1)]) (fun v=>[.cells [.ptr 1 0],.cells (wC (cw v.2) 5),.dead,.cells (wC (cw v.2) 4),.rows 7 (v.2.done.map ATxn.row),.rows 7 (v.2.done.map ATxn.row)]) (0,dQ) ?_ ?_ ?_
 ·exact PlInv.start l
 ·have hn0:dQ.done=[]:=rfl
  simp only [go_sem,hn0];exact zFr [0,1,2,3,4,5] (zx @hn0 @List.map_nil.{0,0})
 intro v hv
 simp only [go_sem]
 have hvk:=hv.k
 have hvm:=hv.m
 have hvd:=hv.d1
 by_cases hk:v.1<l.length∧v.1<100
 ·have hdm:l.getD v.1 default∈l:=by rw [List.getD_eq_getElem?_getD,List.getElem?_eq_getElem hk.1];exact List.getElem_mem hk.1
  have hdo:=AM v.2 (l.getD v.1 default) v.1 hv.a (by omega) hv.d0 (hl _ hdm).1 (hl _ hdm).2
  have hlk:=hg v.2 (l.getD v.1 default) v.1 hv.a hk.2 hv.d0 hv.d1 (hl _ hdm).1 (hl _ hdm).2
  unfold inW cN avN at hdo
  unfold avN at hlk
  generalize hR:doW v.2 (l.getD v.1 default)=R at hdo hlk
  obtain ⟨u,r⟩:=R
  simp only at hdo hlk
  have hnx:=hv.next hk.1 hk.2 hR
  (refine zW qw (z3 Lz (ac [3,4] hdo) (ac [3,6,7,0,1,5] hlk)) trivial (z1 ?_)<;>(repeat with_reducible intro hc))
  all_goals first|(exfalso;omega)|contradiction|(exfalso;simp_all;done)|skip
  all_goals refine ⟨(v.1+1,u),hnx,by simp only;omega,?_⟩
  all_goals exact zFr [0,1,2,3,6,9] trivial
 ·have he:=hv.end hk
  (refine zW qw zn trivial (z1 ?_)<;>(repeat with_reducible intro hc))
  all_goals first|(exfalso;omega)|contradiction|(exfalso;simp_all;done)|skip
  rw [←he]
  refine zO ?_ ?_
  ·simp (disch:=omega) only [go_sem,aa]
  simp (disch:=omega) only [go_sem,aa]
  exact ag.done rfl rfl
theorem Mu:Pls [Plan.takes [0,1,4] (.fork4 2 (.forks 3 (.forks 5 (.fork 6 (Plan.takes [7,8,9] .done) 7 (Plan.takes [6,8,9] .done)) 6 (.fork 5 (Plan.takes [7,8,9] .done) 7 (Plan.takes [5,8,9] .done)) 7 (.fork 5 (Plan.takes [6,8,9] .done) 6 (Plan.takes [5,8,9] .done))) 6 (.fork 3 (.fork 5 (Plan.takes [7,8,9] .done) 7 (Plan.takes [5,8,9] .done)) 7 (Plan.takes [3,5,8,9] .done)) 7 (.fork 3 (.fork 5 (Plan.takes [6,8,9] .done) 6 (Plan.takes [5,8,9] .done)) 6 (Plan.takes [3,5,8,9] .done))) 3 (.forks 2 (.forks 5 (.fork 6 (Plan.takes [7,8,9] .done) 7 (Plan.takes [6,8,9] .done)) 6 (.fork 5 (Plan.takes [7,8,9] .done) 7 (Plan.takes [5,8,9] .done)) 7 (.fork 5 (Plan.takes [6,8,9] .done) 6 (Plan.takes [5,8,9] .done))) 6 (.fork 2 (.fork 5 (Plan.takes [7,8,9] .done) 7 (Plan.takes [5,8,9] .done)) 7 (Plan.takes [2,5,8,9] .done)) 7 (.fork 2 (.fork 5 (Plan.takes [6,8,9] .done) 6 (Plan.takes [5,8,9] .done)) 6 (Plan.takes [2,5,8,9] .done))) 6 (.forks 2 (.fork 3 (.fork 5 (Plan.takes [7,8,9] .done) 7 (Plan.takes [5,8,9] .done)) 7 (Plan.takes [3,5,8,9] .done)) 3 (.fork 2 (.fork 5 (Plan.takes [7,8,9] .done) 7 (Plan.takes [5,8,9] .done)) 7 (Plan.takes [2,5,8,9] .done)) 7 (.fork 2 (Plan.takes [3,5,8,9] .done) 3 (Plan.takes [2,5,8,9] .done))) 7 (.forks 2 (.fork 3 (.fork 5 (Plan.takes [6,8,9] .done) 6 (Plan.takes [5,8,9] .done)) 6 (Plan.takes [3,5,8,9] .done)) 3 (.fork 2 (.fork 5 (Plan.takes [6,8,9] .done) 6 (Plan.takes [5,8,9] .done)) 6 (Plan.takes [2,5,8,9] .done)) 6 (.fork 2 (Plan.takes [3,5,8,9] .done) 3 (Plan.takes [2,5,8,9] .done)))),Plan.takes [0] (.fork 1 (Plan.takes [2,3,4,5] .done) 2 (Plan.takes [1,3,4,5] .done))]:=pls _
set_option maxHeartbeats 16000000 in
theorem Kf (w:AWorld) (d:ADeed) (n:Nat) (ha:cX w n) (hn:n<100) (h0:0≤w.deeds) (hdw:d.wf) (hdp:d.request.path.length≤1048576) :
  ab Tryz.prog [.cells (wC (cw (doW w d).1) 1),.rows 7 ((doW w d).1.done.map ATxn.row),.rows 3 ((doW w d).2.notes.map ANote.row),.cells [.ptr 4 0],.cells (wC (cw w) 5),.rows 7 (w.done.map ATxn.row)] 44
  [.ptr 0 0,d.av,avN (doW w d).2 (.osl 2 3 0 (doW w d).2.notes.length),.ptr 3 0]
  (cY (B true) [.cells (wC (cw (doW w d).1) 1),.rows 7 ((doW w d).1.done.map ATxn.row),.dead,.cells [.ptr 4 0],.cells (wC (cw (doW w d).1) 6),.dead,.rows 7 ((doW w d).1.done.map ATxn.row)]):=by
 have hdo:=AM w d n ha (by omega) h0 hdw hdp
 have hua:=ha.does (by omega) d
 have hnf:=C7 ha d
 unfold inW cN avN at hdo
 unfold avN
 generalize doW w d=R at hdo hua hnf ⊢
 obtain ⟨u,r⟩:=R
 simp only at hdo hua hnf ⊢
 have hfw:=hua.few
 have hsr:=vi r (by omega)
 have hko:=Kc u (by omega)
 have hkd:=Gb u (by omega)
 have hsm:=Bf u.done (by omega)
 have hk1:=J3 d.client 16 (by decide) (by decide)
 have ho1:=Ha d.client (n:=16) (by decide)
 have hk1:ab Tryz.prog [] 28 [I d.client,I 16] (ret (I (rH d.client ((16:Nat):Int)))):=hk1
 generalize rH d.client ((16:Nat):Int)=c at hk1 ho1
 obtain ⟨c,rfl⟩:∃ k:Nat,c=(k:Int):=⟨c.toNat,by omega⟩
 have hc:c<16:=by omega
 have hcl:=BQ u c hc (hua.client (by omega) hc).1 c rfl
 have hz6:=(hua.client (by omega) hc).1.2.2.1
 unfold inW at hko hkd hcl
 simp only [List.cons_append,List.nil_append] at hko hcl
 refine zJ Tryz.func44 Tryz.ntmps44 Tryz.results44 ?_;simp only [go_sem]
 (refine zW qw (z3 Mu (ac [4,5] hdo) hsr) trivial (z1 ?_)<;>(repeat with_reducible intro hc))
 all_goals first|(exfalso;omega)|contradiction|skip
 refine AWP.loopB (ι:=Nat×List (List DV)) (fun v=>v.1≤r.notes.length∧v.2.length=r.notes.length) (fun v=>r.notes.length-v.1) [0,3,5,6,31] (fun v=>[(32,I v.1)]) (fun v=>[.cells (wC (cw u) 1),.rows 7 (u.done.map ATxn.row),.rows 3 v.2,.cells [.ptr 4 0],.cells (wC (cw u) 8),.dead,.cells [I d.kind,I d.client,I d.server,I d.request.op,I d.request.session,S d.request.path,S d.request.data,I d.request.version,I d.request.flags,I d.lost,I d.slow,I d.keep,B d.watch],.cells [I r.code,I r.zxid,S r.path,S r.data,I r.stat.czxid,I r.stat.mzxid,I r.stat.pzxid,I r.stat.version,I r.stat.cversion,I r.stat.owner,I r.stat.kids,.osl 2 3 0 r.notes.length],.rows 7 (u.done.map ATxn.row)]) (0,r.notes.map ANote.row) ?_ ?_ ?_
 ·exact ⟨Nat.zero_le _,by simp⟩
 ·simp only [go_sem];exact zFr [0,1,2,3,4,5,6,7,8] trivial
 intro v hv
 simp only [go_sem]
 obtain ⟨hv1,hv2⟩:=hv
 by_cases hk:v.1<r.notes.length
 ·(refine zW qw zn trivial (z1 ?_)<;>(repeat with_reducible intro hc))
  all_goals first|(exfalso;omega)|contradiction|skip
  all_goals refine ⟨(v.1+1,v.2.set v.1 (.int .i64 (-1)::.int .i64 0::.str []::List.drop 3 (v.2.getD v.1 []))),⟨by simp only;omega,by simp only [List.length_set];exact hv2⟩,by simp only;omega,?_⟩
  all_goals exact zFr [0,1,2,3,4,5,6,7,8] trivial
 obtain ⟨v,z⟩:=v
 simp only at hk hv1 hv2 ⊢
 (refine zW qw zn trivial (z1 ?_)<;>(repeat with_reducible intro hc))
 all_goals first|(exfalso;omega)|contradiction|skip
 clear hk hv1 hv2
 refine AWP.loopB (ι:=Nat) (fun v=>v≤3) (fun v=>3-v) [0,3,5] (fun v=>[(10,I v)]) (fun v=>[.cells (wC (cw u) 1),.rows 7 (u.done.map ATxn.row),.dead,.cells [.ptr 4 0],.cells (wC (cw u) 7),.dead,.cells [I d.kind,I d.client,I d.server,I d.request.op,I d.request.session,S d.request.path,S d.request.data,I d.request.version,I d.request.flags,I d.lost,I d.slow,I d.keep,B d.watch],.rows 7 (u.done.map ATxn.row)]) 0 ?_ ?_ ?_
 ·omega
 ·simp only [go_sem];exact zFr [0,1,2,3,4,5,6,8] trivial
 intro v hv
 simp only [go_sem]
 by_cases hk:v<3
 ·have hs:=(hua.server (by omega) hk).1
  have hso:=CI u v hk hs v rfl
  have hsv:=C9 u v hk hs v rfl
  have hss:=rU (u.s v) hs
  obtain ⟨hz1,hz2,hz3,hz4,hz5⟩:(u.s v).disk.files.length≤9223372036854775806∧(u.s v).peer.log.length≤9223372036854775806∧(u.s v).tree.nodes.length≤9223372036854775806∧(u.s v).tree.sessions.length≤9223372036854775806∧(u.s v).watches.length≤9223372036854775806:=by
   obtain ⟨_,h1,h2,h3,h4⟩:=hs
   have:=h1.1
   have:=h2.2.2.1.1
   have:=h3.2.1.1
   have:=h3.2.2.1
   have:=h4.1
   omega
  unfold inW at hso hsv
  simp only [List.cons_append,List.nil_append] at hso
  (refine zW qs zn trivial (z1 ?_)<;>(repeat with_reducible intro hc))
  all_goals first|(exfalso;omega)|contradiction|skip
  refine AWP.meetB [0,3,5,10] [(11,.ptr 13 0),(12,.ptr 14 0)] [.cells (wC (cw u) 1),.rows 7 (u.done.map ATxn.row),.dead,.cells [.ptr 4 0],.cells (wC (cw u) 7),.dead,.cells [I d.kind,I d.client,I d.server,I d.request.op,I d.request.session,S d.request.path,S d.request.data,I d.request.version,I d.request.flags,I d.lost,I d.slow,I d.keep,B d.watch],.rows 7 (u.done.map ATxn.row),.rows 3 ((u.s v).disk.files.map AFile.row),.rows 7 ((u.s v).peer.log.map ATxn.row),.rows 9 ((u.s v).tree.nodes.map ANode.row),.rows 1 ((u.s v).tree.sessions.map cU),.rows 3 ((u.s v).watches.map AWatch.row),.cells [B (u.s v).up,.osl 8 3 0 (u.s v).disk.files.length,I (u.s v).peer.id,I (u.s v).peer.epoch,.osl 9 7 0 (u.s v).peer.log.length,I (u.s v).peer.done,I (u.s v).tree.zxid,.osl 10 9 0 (u.s v).tree.nodes.length,.osl 11 1 0 (u.s v).tree.sessions.length,.osl 12 3 0 (u.s v).watches.length],.cells [B (u.s v).up,.d (.sl 3 ((u.s v).disk.files.map AFile.row)),I (u.s v).peer.id,I (u.s v).peer.epoch,.d (.sl 7 ((u.s v).peer.log.map ATxn.row)),I (u.s v).peer.done,I (u.s v).tree.zxid,.d (.sl 9 ((u.s v).tree.nodes.map ANode.row)),.d (.sl 1 ((u.s v).tree.sessions.map cU)),.d (.sl 3 ((u.s v).watches.map AWatch.row))]] ?_ ?_
  ·(repeat' first
|(with_reducible refine AR.f ?_)
|refine ap (by decide) ?_
|(with_reducible refine AWP.cond rfl ?_ ?_<;>intro hc<;>(try simp only [hcs,beq_iff_eq,ge_iff_le,gt_iff_lt] at hc))
|((first|((first|refine zP ((Plan.takes [0,1,4] (.fork4 2 (.forks 3 (.forks 5 (.fork 6 (Plan.takes [7,8,9] .done) 7 (Plan.takes [6,8,9] .done)) 6 (.fork 5 (Plan.takes [7,8,9] .done) 7 (Plan.takes [5,8,9] .done)) 7 (.fork 5 (Plan.takes [6,8,9] .done) 6 (Plan.takes [5,8,9] .done))) 6 (.fork 3 (.fork 5 (Plan.takes [7,8,9] .done) 7 (Plan.takes [5,8,9] .done)) 7 (Plan.takes [3,5,8,9] .done)) 7 (.fork 3 (.fork 5 (Plan.takes [6,8,9] .done) 6 (Plan.takes [5,8,9] .done)) 6 (Plan.takes [3,5,8,9] .done))) 3 (.forks 2 (.forks 5 (.fork 6 (Plan.takes [7,8,9] .done) 7 (Plan.takes [6,8,9] .done)) 6 (.fork 5 (Plan.takes [7,8,9] .done) 7 (Plan.takes [5,8,9] .done)) 7 (.fork 5 (Plan.takes [6,8,9] .done) 6 (Plan.takes [5,8,9] .done))) 6 (.fork 2 (.fork 5 (Plan.takes [7,8,9] .done) 7 (Plan.takes [5,8,9] .done)) 7 (Plan.takes [2,5,8,9] .done)) 7 (.fork 2 (.fork 5 (Plan.takes [6,8,9] .done) 6 (Plan.takes [5,8,9] .done)) 6 (Plan.takes [2,5,8,9] .done))) 6 (.forks 2 (.fork 3 (.fork 5 (Plan.takes [7,8,9] .done) 7 (Plan.takes [5,8,9] .done)) 7 (Plan.takes [3,5,8,9] .done)) 3 (.fork 2 (.fork 5 (Plan.takes [7,8,9] .done) 7 (Plan.takes [5,8,9] .done)) 7 (Plan.takes [2,5,8,9] .done)) 7 (.fork 2 (Plan.takes [3,5,8,9] .done) 3 (Plan.takes [2,5,8,9] .done))) 7 (.forks 2 (.fork 3 (.fork 5 (Plan.takes [6,8,9] .done) 6 (Plan.takes [5,8,9] .done)) 6 (Plan.takes [3,5,8,9] .done)) 3 (.fork 2 (.fork 5 (Plan.takes [6,8,9] .done) 6 (Plan.takes [5,8,9] .done)) 6 (Plan.takes [2,5,8,9] .done)) 6 (.fork 2 (Plan.takes [3,5,8,9] .done) 3 (Plan.takes [2,5,8,9] .done)))))) (by decide +kernel) ?_|refine zP ((Plan.takes [0] (.fork 1 (Plan.takes [2,3,4,5] .done) 2 (Plan.takes [1,3,4,5] .done)))) (by decide +kernel) ?_|(with_reducible first|refine zR ?_|refine zQ (by decide +kernel) ?_|refine zD (by decide +kernel) ?_|refine zE (by decide +kernel) ?_|refine zG (by decide +kernel) ?_));intro K hK)|(refine acallH_at [0,1] (hso) ?_ ?_ ?_;(focus ((try simp (disch:=omega) only [inj,List.cons.injEq,and_self,List.nodup_cons,List.not_mem_nil,List.mem_cons,not_false_eq_true,List.nodup_nil,go_sem,aa])<;>(try omega)<;>fail));(focus ((try simp (disch:=omega) only [inj,List.cons.injEq,and_self,List.nodup_cons,List.not_mem_nil,List.mem_cons,not_false_eq_true,List.nodup_nil,go_sem,aa])<;>(try omega)<;>(try decide)<;>fail)))|(refine acallH_at [4,7] (hsv) ?_ ?_ ?_;(focus ((try simp (disch:=omega) only [inj,List.cons.injEq,and_self,List.nodup_cons,List.not_mem_nil,List.mem_cons,not_false_eq_true,List.nodup_nil,go_sem,aa])<;>(try omega)<;>fail));(focus ((try simp (disch:=omega) only [inj,List.cons.injEq,and_self,List.nodup_cons,List.not_mem_nil,List.mem_cons,not_false_eq_true,List.nodup_nil,go_sem,aa])<;>(try omega)<;>(try decide)<;>fail)))|((first|(with_reducible refine aunder_i ?_ ?_<;>intro hg)|with_reducible intro hg)<;>(first|(exfalso;simp at hg;done)|(have hg':=hg;(try simp only [hcs,beq_iff_eq,ge_iff_le,gt_iff_lt] at hg');(try simp only [hg])))))<;>(try simp (disch:=omega) only [go_sem,aa])<;>(repeat' with_reducible refine And.intro ?_ ?_)<;>(try (with_reducible refine hK _ ?_;clear hK K)))
|omega)
   all_goals first|(exfalso;omega)|contradiction|skip
   all_goals first|((refine zV [0,1,2,3,4,5,6,7,8,9,10,11,12,13,14] rfl rfl rfl rfl ?_ ?_<;>simp (disch:=omega) only [go_sem,aa,Int.natCast_add]<;>(try rfl));done)|((refine zV [0,1,2,3,4,5,6,7,8,9,10,11,12,14,13] rfl rfl rfl rfl ?_ ?_<;>simp (disch:=omega) only [go_sem,aa,Int.natCast_add]<;>(try rfl));done)|((refine zV [0,1,2,3,4,5,6,7,9,10,11,12,13,8,14] rfl rfl rfl rfl ?_ ?_<;>simp (disch:=omega) only [go_sem,aa,Int.natCast_add]<;>(try rfl));done)|((refine zV [0,1,2,3,4,5,6,7,10,11,12,13,14,8,9] rfl rfl rfl rfl ?_ ?_<;>simp (disch:=omega) only [go_sem,aa,Int.natCast_add]<;>(try rfl));done)|((refine zV [0,1,2,3,4,5,6,7,9,10,11,12,13,14,8] rfl rfl rfl rfl ?_ ?_<;>simp (disch:=omega) only [go_sem,aa,Int.natCast_add]<;>(try rfl));done)|((refine zV [0,1,2,3,4,5,6,7,10,11,12,13,14,9,8] rfl rfl rfl rfl ?_ ?_<;>simp (disch:=omega) only [go_sem,aa,Int.natCast_add]<;>(try rfl));done)
  simp only [go_sem]
  (refine zW qw (z1 hss) trivial (z1 ?_)<;>(repeat with_reducible intro hc))
  all_goals first|(exfalso;omega)|contradiction|skip
  refine AWP.loopB (ι:=Nat×List (List DV)) (fun x=>x.1≤(u.s v).peer.log.length∧x.2.length=(u.s v).peer.log.length) (fun x=>(u.s v).peer.log.length-x.1) [0,3,5,10,11,58] (fun x=>[(59,I x.1)]) (fun x=>[.cells (wC (cw u) 1),.rows 7 (u.done.map ATxn.row),.dead,.cells [.ptr 4 0],.cells (wC (cw u) 7),.dead,.cells [I d.kind,I d.client,I d.server,I d.request.op,I d.request.session,S d.request.path,S d.request.data,I d.request.version,I d.request.flags,I d.lost,I d.slow,I d.keep,B d.watch],.rows 7 (u.done.map ATxn.row),.rows 3 ((u.s v).disk.files.map AFile.row),.rows 7 x.2,.rows 9 ((u.s v).tree.nodes.map ANode.row),.dead,.rows 3 ((u.s v).watches.map AWatch.row),.cells [B (u.s v).up,.osl 8 3 0 (u.s v).disk.files.length,I (u.s v).peer.id,I (u.s v).peer.epoch,.osl 9 7 0 (u.s v).peer.log.length,I (u.s v).peer.done,I (u.s v).tree.zxid,.osl 10 9 0 (u.s v).tree.nodes.length,.osl 11 1 0 (u.s v).tree.sessions.length,.osl 12 3 0 (u.s v).watches.length]]) (0,(u.s v).peer.log.map ATxn.row) ?_ ?_ ?_
  ·exact ⟨Nat.zero_le _,by simp⟩
  ·simp only [go_sem];exact zFr [0,1,2,3,4,5,6,7,8,9,10,11,12,13] trivial
  intro x hx
  simp only [go_sem]
  obtain ⟨hx1,hx2⟩:=hx
  by_cases hj:x.1<(u.s v).peer.log.length
  ·(refine zW qw zn trivial (z1 ?_)<;>(repeat with_reducible intro hc))
   all_goals first|(exfalso;omega)|contradiction|skip
   all_goals refine ⟨(x.1+1,x.2.set x.1 ((x.2.getD x.1 []).set 0 (.int .i64 (-1)))),⟨by simp only;omega,by simp only [List.length_set];exact hx2⟩,by simp only;omega,?_⟩
   all_goals exact zFr [0,1,2,3,4,5,6,7,8,9,10,11,12,13] trivial
  obtain ⟨x,z⟩:=x
  simp only at hj hx1 hx2 ⊢
  (refine zW qw zn trivial (z1 ?_)<;>(repeat with_reducible intro hc))
  all_goals first|(exfalso;omega)|contradiction|skip
  clear hj hx1 hx2
  refine AWP.loopB (ι:=Nat×List (List DV)) (fun x=>x.1≤(u.s v).tree.nodes.length∧x.2.length=(u.s v).tree.nodes.length) (fun x=>(u.s v).tree.nodes.length-x.1) [0,3,5,10,11,72] (fun x=>[(73,I x.1)]) (fun x=>[.cells (wC (cw u) 1),.rows 7 (u.done.map ATxn.row),.dead,.cells [.ptr 4 0],.cells (wC (cw u) 7),.dead,.cells [I d.kind,I d.client,I d.server,I d.request.op,I d.request.session,S d.request.path,S d.request.data,I d.request.version,I d.request.flags,I d.lost,I d.slow,I d.keep,B d.watch],.rows 7 (u.done.map ATxn.row),.rows 3 ((u.s v).disk.files.map AFile.row),.dead,.rows 9 x.2,.dead,.rows 3 ((u.s v).watches.map AWatch.row),.cells [B (u.s v).up,.osl 8 3 0 (u.s v).disk.files.length,I (u.s v).peer.id,I (u.s v).peer.epoch,.osl 9 7 0 (u.s v).peer.log.length,I (u.s v).peer.done,I (u.s v).tree.zxid,.osl 10 9 0 (u.s v).tree.nodes.length,.osl 11 1 0 (u.s v).tree.sessions.length,.osl 12 3 0 (u.s v).watches.length]]) (0,(u.s v).tree.nodes.map ANode.row) ?_ ?_ ?_
  ·exact ⟨Nat.zero_le _,by simp⟩
  ·simp only [go_sem];exact zFr [0,1,2,3,4,5,6,7,8,9,10,11,12,13] trivial
  intro x hx
  simp only [go_sem]
  obtain ⟨hx1,hx2⟩:=hx
  by_cases hj:x.1<(u.s v).tree.nodes.length
  ·(refine zW qw zn trivial (z1 ?_)<;>(repeat with_reducible intro hc))
   all_goals first|(exfalso;omega)|contradiction|skip
   all_goals refine ⟨(x.1+1,x.2.set x.1 ((x.2.getD x.1 []).set 0 (.str [115,112,111,105,108,116]))),⟨by simp only;omega,by simp only [List.length_set];exact hx2⟩,by simp only;omega,?_⟩
   all_goals exact zFr [0,1,2,3,4,5,6,7,8,9,10,11,12,13] trivial
  obtain ⟨x,z⟩:=x
  simp only at hj hx1 hx2 ⊢
  (refine zW qw zn trivial (z1 ?_)<;>(repeat with_reducible intro hc))
  all_goals first|(exfalso;omega)|contradiction|skip
  clear hj hx1 hx2
  refine AWP.loopB (ι:=Nat×List (List DV)) (fun x=>x.1≤(u.s v).disk.files.length∧x.2.length=(u.s v).disk.files.length) (fun x=>(u.s v).disk.files.length-x.1) [0,3,5,10,11,86] (fun x=>[(87,I x.1)]) (fun x=>[.cells (wC (cw u) 1),.rows 7 (u.done.map ATxn.row),.dead,.cells [.ptr 4 0],.cells (wC (cw u) 7),.dead,.cells [I d.kind,I d.client,I d.server,I d.request.op,I d.request.session,S d.request.path,S d.request.data,I d.request.version,I d.request.flags,I d.lost,I d.slow,I d.keep,B d.watch],.rows 7 (u.done.map ATxn.row),.rows 3 x.2,.dead,.dead,.dead,.rows 3 ((u.s v).watches.map AWatch.row),.cells [B (u.s v).up,.osl 8 3 0 (u.s v).disk.files.length,I (u.s v).peer.id,I (u.s v).peer.epoch,.osl 9 7 0 (u.s v).peer.log.length,I (u.s v).peer.done,I (u.s v).tree.zxid,.osl 10 9 0 (u.s v).tree.nodes.length,.osl 11 1 0 (u.s v).tree.sessions.length,.osl 12 3 0 (u.s v).watches.length]]) (0,(u.s v).disk.files.map AFile.row) ?_ ?_ ?_
  ·exact ⟨Nat.zero_le _,by simp⟩
  ·simp only [go_sem];exact zFr [0,1,2,3,4,5,6,7,8,9,10,11,12,13] trivial
  intro x hx
  simp only [go_sem]
  obtain ⟨hx1,hx2⟩:=hx
  by_cases hj:x.1<(u.s v).disk.files.length
  ·(refine zW qw zn trivial (z1 ?_)<;>(repeat with_reducible intro hc))
   all_goals first|(exfalso;omega)|contradiction|skip
   all_goals refine ⟨(x.1+1,x.2.set x.1 ((x.2.getD x.1 []).set 1 (.str [115,112,111,105,108,116]))),⟨by simp only;omega,by simp only [List.length_set];exact hx2⟩,by simp only;omega,?_⟩
   all_goals exact zFr [0,1,2,3,4,5,6,7,8,9,10,11,12,13] trivial
  obtain ⟨x,z⟩:=x
  simp only at hj hx1 hx2 ⊢
  (refine zW qw zn trivial (z1 ?_)<;>(repeat with_reducible intro hc))
  all_goals first|(exfalso;omega)|contradiction|skip
  clear hj hx1 hx2
  refine AWP.loopB (ι:=Nat×List (List DV)) (fun x=>x.1≤(u.s v).watches.length∧x.2.length=(u.s v).watches.length) (fun x=>(u.s v).watches.length-x.1) [0,3,5,10,11,99] (fun x=>[(100,I x.1)]) (fun x=>[.cells (wC (cw u) 1),.rows 7 (u.done.map ATxn.row),.dead,.cells [.ptr 4 0],.cells (wC (cw u) 7),.dead,.cells [I d.kind,I d.client,I d.server,I d.request.op,I d.request.session,S d.request.path,S d.request.data,I d.request.version,I d.request.flags,I d.lost,I d.slow,I d.keep,B d.watch],.rows 7 (u.done.map ATxn.row),.dead,.dead,.dead,.dead,.rows 3 x.2,.cells [B (u.s v).up,.osl 8 3 0 (u.s v).disk.files.length,I (u.s v).peer.id,I (u.s v).peer.epoch,.osl 9 7 0 (u.s v).peer.log.length,I (u.s v).peer.done,I (u.s v).tree.zxid,.osl 10 9 0 (u.s v).tree.nodes.length,.osl 11 1 0 (u.s v).tree.sessions.length,.osl 12 3 0 (u.s v).watches.length]]) (0,(u.s v).watches.map AWatch.row) ?_ ?_ ?_
  ·exact ⟨Nat.zero_le _,by simp⟩
  ·simp only [go_sem];exact zFr [0,1,2,3,4,5,6,7,8,9,10,11,12,13] trivial
  intro x hx
  simp only [go_sem]
  obtain ⟨hx1,hx2⟩:=hx
  by_cases hj:x.1<(u.s v).watches.length
  ·(refine zW qw zn trivial (z1 ?_)<;>(repeat with_reducible intro hc))
   all_goals first|(exfalso;omega)|contradiction|skip
   all_goals refine ⟨(x.1+1,x.2.set x.1 ((x.2.getD x.1 []).set 2 (.str [115,112,111,105,108,116]))),⟨by simp only;omega,by simp only [List.length_set];exact hx2⟩,by simp only;omega,?_⟩
   all_goals exact zFr [0,1,2,3,4,5,6,7,8,9,10,11,12,13] trivial
  obtain ⟨x,z⟩:=x
  simp only at hj hx1 hx2 ⊢
  (refine zW qw zn trivial (z1 ?_)<;>(repeat with_reducible intro hc))
  all_goals first|(exfalso;omega)|contradiction|skip
  all_goals refine ⟨v+1,by omega,by omega,?_⟩
  all_goals exact zFr [0,1,2,3,4,5,6,7] trivial
 obtain rfl:v=3:=by omega
 clear hv hk
 (refine zW qw (z1 (ac [0,1] hko)) trivial (z1 ?_)<;>(repeat with_reducible intro hc))
 all_goals first|(exfalso;omega)|contradiction|skip
 refine AWP.loopB (ι:=Nat×List (List DV)) (fun v=>v.1≤1∧v.2.length=u.done.length) (fun v=>1-v.1) [0,3,5,111,112] (fun v=>[(113,I v.1)]) (fun v=>[.cells (wC (cw u) 1),.rows 7 (u.done.map ATxn.row),.dead,.cells [.ptr 4 0],.cells (wC (cw u) 7),.dead,.cells [I d.kind,I d.client,I d.server,I d.request.op,I d.request.session,S d.request.path,S d.request.data,I d.request.version,I d.request.flags,I d.lost,I d.slow,I d.keep,B d.watch],.rows 7 (u.done.map ATxn.row),.rows 7 v.2,.cells [.osl 8 7 0 u.done.length]]) (0,u.done.map ATxn.row) ?_ ?_ ?_
 ·exact ⟨Nat.zero_le _,by simp⟩
 ·simp only [go_sem];exact zFr [0,1,2,3,4,5,6,7,8,9] trivial
 intro v hv
 simp only [go_sem]
 obtain ⟨hv1,hv2⟩:=hv
 by_cases hk:v.1<1
 ·have hv0:v.1=0:=by omega
  (refine zW qw zn @hv0 (z1 ?_)<;>(repeat with_reducible intro hc))
  all_goals first|(exfalso;omega)|contradiction|skip
  refine AWP.loopB (ι:=Nat×List (List DV)) (fun x=>x.1≤u.done.length∧x.2.length=u.done.length) (fun x=>u.done.length-x.1) [0,3,5,18,111,112,113,118] (fun x=>[(119,I x.1)]) (fun x=>[.cells (wC (cw u) 1),.rows 7 (u.done.map ATxn.row),.dead,.cells [.ptr 4 0],.cells (wC (cw u) 7),.dead,.cells [I d.kind,I d.client,I d.server,I d.request.op,I d.request.session,S d.request.path,S d.request.data,I d.request.version,I d.request.flags,I d.lost,I d.slow,I d.keep,B d.watch],.rows 7 (u.done.map ATxn.row),.rows 7 x.2,.cells [.osl 8 7 0 u.done.length]]) (0,v.2) ?_ ?_ ?_
  ·exact ⟨Nat.zero_le _,hv2⟩
  ·simp only [go_sem];exact zFr [0,1,2,3,4,5,6,7,8,9] trivial
  intro x hx
  simp only [go_sem]
  obtain ⟨hx1,hx2⟩:=hx
  by_cases hj:x.1<u.done.length
  ·(refine zW qw zn trivial (z1 ?_)<;>(repeat with_reducible intro hc))
   all_goals first|(exfalso;omega)|contradiction|skip
   all_goals refine ⟨(x.1+1,x.2.set x.1 ((x.2.getD x.1 []).set 0 (.int .i64 (-1)))),⟨by simp only;omega,by simp only [List.length_set];exact hx2⟩,by simp only;omega,?_⟩
   all_goals exact zFr [0,1,2,3,4,5,6,7,8,9] trivial
  obtain ⟨x,z⟩:=x
  simp only at hj hx1 hx2 ⊢
  (refine zW qw zn trivial (z1 ?_)<;>(repeat with_reducible intro hc))
  all_goals first|(exfalso;omega)|contradiction|skip
  all_goals refine ⟨(v.1+1,z),⟨by simp only;omega,hx2⟩,by simp only;omega,?_⟩
  all_goals exact zFr [0,1,2,3,4,5,6,7,8,9] @hv0
 obtain ⟨v,z⟩:=v
 simp only at hk hv1 hv2 ⊢
 (repeat' first
|(with_reducible refine AR.f ?_)
|refine ap (by decide) ?_
|(with_reducible refine AWP.cond rfl ?_ ?_<;>intro hc<;>(try simp only [hcs,beq_iff_eq,ge_iff_le,gt_iff_lt] at hc))
|((first|((first|(with_reducible first|refine zR ?_|refine zQ (by decide +kernel) ?_|refine zD (by decide +kernel) ?_|refine zE (by decide +kernel) ?_|refine zG (by decide +kernel) ?_));intro K hK)|((first|refine zA hk1 ?_ ?_ ?_ ?_ ?_);(focus exact rfl);(focus exact rfl);iterate 2 (focus ((try simp (disch:=omega) only [go_sem,aa])<;>(try omega)<;>fail)))|((first|refine zX hk1 rfl ?_ ?_);(focus ((try simp (disch:=omega) only [go_sem,aa])<;>(try omega)<;>fail)))|((first|(with_reducible refine aunder_i ?_ ?_<;>intro hg)|with_reducible intro hg)<;>(first|(exfalso;simp at hg;done)|(have hg':=hg;(try simp only [hcs,beq_iff_eq,ge_iff_le,gt_iff_lt] at hg');(try simp only [hg])))))<;>(try simp (disch:=omega) only [go_sem,aa])<;>(repeat' with_reducible refine And.intro ?_ ?_)<;>(try (with_reducible refine hK _ ?_;clear hK K)))
|omega)
 (repeat' first
|(with_reducible refine AR.f ?_)
|refine ap (by decide) ?_
|(with_reducible refine AWP.cond rfl ?_ ?_<;>intro hc<;>(try simp only [hcs,beq_iff_eq,ge_iff_le,gt_iff_lt] at hc))
|((first|((first|(with_reducible first|refine zR ?_|refine zQ (by decide +kernel) ?_|refine zD (by decide +kernel) ?_|refine zE (by decide +kernel) ?_|refine zG (by decide +kernel) ?_));intro K hK)|(refine acallH_at [0,1] (hcl) ?_ ?_ ?_;(focus ((try simp (disch:=omega) only [inj,List.cons.injEq,and_self,List.nodup_cons,List.not_mem_nil,List.mem_cons,not_false_eq_true,List.nodup_nil,go_sem,aa])<;>(try omega)<;>fail));(focus ((try simp (disch:=omega) only [inj,List.cons.injEq,and_self,List.nodup_cons,List.not_mem_nil,List.mem_cons,not_false_eq_true,List.nodup_nil,go_sem,aa])<;>(try omega)<;>(try decide)<;>fail)))|((first|(with_reducible refine aunder_i ?_ ?_<;>intro hg)|with_reducible intro hg)<;>(first|(exfalso;simp at hg;done)|(have hg':=hg;(try simp only [hcs,beq_iff_eq,ge_iff_le,gt_iff_lt] at hg');(try simp only [hg])))))<;>(try simp (disch:=omega) only [go_sem,aa])<;>(repeat' with_reducible refine And.intro ?_ ?_)<;>(try (with_reducible refine hK _ ?_;clear hK K)))
|omega)
 all_goals first|(exfalso;omega)|contradiction|skip
 clear hk hv1 hv2
 refine AWP.loopB (ι:=Nat×List (List DV)) (fun x=>x.1≤(u.c c).cache.length∧x.2.length=(u.c c).cache.length) (fun x=>(u.c c).cache.length-x.1) [0,3,20,135] (fun x=>[(136,I x.1)]) (fun x=>[.cells (wC (cw u) 1),.rows 7 (u.done.map ATxn.row),.dead,.cells [.ptr 4 0],.cells (wC (cw u) 7),.dead,.cells [I d.kind,I d.client,I d.server,I d.request.op,I d.request.session,S d.request.path,S d.request.data,I d.request.version,I d.request.flags,I d.lost,I d.slow,I d.keep,B d.watch],.rows 7 (u.done.map ATxn.row),.dead,.dead,.rows 3 x.2,.cells [I (u.c c).session,I (u.c c).seen,.osl 10 3 0 (u.c c).cache.length]]) (0,(u.c c).cache.map AEntry.row) ?_ ?_ ?_
 ·exact ⟨Nat.zero_le _,by simp⟩
 ·simp only [go_sem];exact zFr [0,1,2,3,4,5,6,7,8,9,10,11] trivial
 intro x hx
 simp only [go_sem]
 obtain ⟨hx1,hx2⟩:=hx
 by_cases hj:x.1<(u.c c).cache.length
 ·(refine zW qw zn trivial (z1 ?_)<;>(repeat with_reducible intro hc))
  all_goals first|(exfalso;omega)|contradiction|skip
  all_goals refine ⟨(x.1+1,x.2.set x.1 ((x.2.getD x.1 []).set 1 (.str [115,112,111,105,108,116]))),⟨by simp only;omega,by simp only [List.length_set];exact hx2⟩,by simp only;omega,?_⟩
  all_goals exact zFr [0,1,2,3,4,5,6,7,8,9,10,11] trivial
 obtain ⟨x,z⟩:=x
 simp only at hj hx1 hx2 ⊢
 (refine zW qw (z4 Mu (ac [0,1] hkd) (ac [4,7] hkd) hsm) trivial (z2 ?_ ?_)<;>(repeat with_reducible intro hc))
 all_goals first|(exfalso;omega)|contradiction|skip
 all_goals (refine zO ?_ ?_;(focus ((try simp (disch:=omega) only [go_sem,aa])<;>fail));simp (disch:=omega) only [go_sem,aa];refine ag.of_simp ?_ (ag.same ⟨rfl,rfl⟩);refine zV [0,1,2,3,4,5,7] rfl rfl rfl rfl ?_ ?_<;>simp (disch:=omega) only [go_sem,aa,true_or,or_true])
theorem uC:EI 44:=fun w d n ha hn h0 _ hdw hdp=>Kf w d n ha hn h0 hdw hdp
set_option maxHeartbeats 16000000 in
theorem vZ (l:List ADeed) (hl:∀ d,d∈l→d.wf∧d.request.path.length≤1048576) (hll:l.length≤1048576):ab Tryz.prog [] 10 [.d (.sl 13 (l.map ADeed.row))] (ret (B true)):=by
 have hp:=Is 44 uC l hl hll
 refine zJ Tryz.func10 Tryz.ntmps10 Tryz.results10 ?_;simp only [go_sem]
 (refine zW qw (z2 zu (ac [2,0,1] hp)) trivial (z1 ?_)<;>(repeat with_reducible intro hc))
 all_goals first|(exfalso;omega)|contradiction|skip
 all_goals exact zEe trivial
theorem vG (dss:List (List DV)) (h:rC T 6 Tryz.f10.params.toList dss) (hs:∀ cs,cs∈dss→∀ c,c∈cs→SmallD 1048576 c):ab Tryz.prog [] 10 (m5 T Tryz.f10.params.toList dss) (fun v _=>v=B true):=by
 rw [Tryz.params10] at h ⊢
 simp only [List.toList_toArray,rC] at h
 obtain ⟨c0,d0,rfl,h0,rfl⟩:=h
 have s0:=hs c0 (by simp)
 obtain ⟨l,rfl,v_l,w_l⟩:=Ma (m:=5) (e:=30) (sz:=13) (by_:=120) (f:=ADeed.row) (wf:=ADeed.wf) (by simp only [KL,Gv]) (by simp only [Jd,CJ]) (by simp only [Jd,CJ]) (fun r hr=>vF (m:=2) hr) h0
 have u_l:=s0
 simp only [List.toList_toArray,m5,EU,TI.agg_mk,KL,Gv]
 exact (vZ l (fun d hd=>⟨w_l d hd,((u_l (DV.sl 13 (l.map ADeed.row)) (by simp)).rows.2 _ (List.mem_map_of_mem hd) (DV.str d.request.path) (by simp [ADeed.row])).len⟩) (by simpa using (u_l (DV.sl 13 (l.map ADeed.row)) (by simp)).rows.1)).mono fun _ _ h=>h.1
end Go.Proofs.YtjcooccnfkfjhaaGreatDoor
