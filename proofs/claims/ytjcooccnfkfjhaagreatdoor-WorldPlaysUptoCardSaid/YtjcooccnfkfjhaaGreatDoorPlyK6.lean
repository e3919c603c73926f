/- What the law leans on. No condition. -/
import Derived.Test.YtjcooccnfkfjhaaGreatDoorPlyK5b
namespace Go.Proofs.YtjcooccnfkfjhaaGreatDoor
set_option maxHeartbeats 16000000
set_option linter.unusedVariables false
set_option linter.unusedSimpArgs false
open Go Go.RowKit Tryz
set_option maxRecDepth 100000
structure CSt where
 t:XW
 w:List AWatch
 n:List XX
def jv(q:XW×List XZ×Int)(p:CSt)(x:ATxn):CSt:=⟨q.1,if x.op=2 then ib (cC p.w q.2.1).2 x.session else(cC p.w q.2.1).2,p.n++(cC p.w q.2.1).1⟩
def jm:List ATxn→CSt→CSt×Int
 |[],p=>(p,0)
 |x::r,p=>if(ah p.t x).2.2=0 then jm r (jv (ah p.t x) p x) else(p,(ah p.t x).2.2)
def au(s:XV)(n:Int):XV×List XX×Int:=
 if s.peer.done<0∨n<s.peer.done∨s.peer.log.length<n then(default,[],3) else
 let q:=jm ((s.peer.log.drop s.peer.done.toNat).take (n.toNat-s.peer.done.toNat)) ⟨s.tree,s.watches,[]⟩
 if q.2=0 then(⟨s.up,s.disk,⟨s.peer.id,s.peer.epoch,s.peer.log,n⟩,q.1.t,q.1.w⟩,q.1.n,0) else(default,[],q.2)
theorem nM{x:ATxn}{r:List ATxn}{p:CSt}(h:(ah p.t x).2.2=0):jm (x::r) p=jm r (jv (ah p.t x) p x):=by rw[jm,RJ h]
theorem rv{x:ATxn}{r:List ATxn}{p:CSt}(h:¬ (ah p.t x).2.2=0):jm (x::r) p=(p,(ah p.t x).2.2):=by rw[jm,RI h]
theorem Kt(l:List AWatch)(s:Int):(ib l s).length≤l.length:=SW _ _
theorem qY(q:XW×List XZ×Int)(p:CSt)(x:ATxn):(jv q p x).n.length+(jv q p x).w.length≤p.n.length+p.w.length:=by
 have h:=ju p.w q.2.1;unfold jv;simp only[RL];split
 ·have:=Kt (cC p.w q.2.1).2 x.session;omega
 ·omega
theorem xN(l:List ATxn)(k:Nat)(h:k<l.length):l.drop k=l.getD k default::l.drop (k+1):=by rw[S7 h,RG,RH h];rfl
theorem vC{p:CSt}{x:ATxn}(h:okT p.t)(hx:x.wf)(hp:x.path.length≤1048576):okT (jv (ah p.t x) p x).t:=Gy h hx hp
theorem BZ(s:XV)(n:Int)(hw:s.wf)(ht:okT s.tree)(hx:∀ x,x∈s.peer.log→x.path.length≤1048576):ab prog [] 115 [s.av,I n] (ret (.tup [(au s n).1.av,.d (.sl 3 ((au s n).2.1.map XX.row)),I (au s n).2.2])):=by
 obtain⟨_,h1,h2,h3,h4⟩:=hw;have hl7:=h2.2.2.1.1
 by_cases hb:s.peer.done<0∨n<s.peer.done∨s.peer.log.length<n
 ·unfold au;rw[RJ hb]
  refine zJ func115 ntmps115 results115 ?_;simp only[go_sem]
  (refine zW qw zn Yj (z1 ?_)<;>(repeat with_reducible intro hc))
  all_goals try exact zk1
  all_goals exact zEe dfl
 unfold au;rw[RI hb];have hd0:0≤s.peer.done:=by omega
 have q1:(s.peer.done:Int)=((s.peer.done.toNat:Nat):Int):=by omega
 have q2:n=((n.toNat:Nat):Int):=by omega
 have q3:s.peer.done.toNat≤n.toNat:=by omega
 have q4:n.toNat≤s.peer.log.length:=by omega
 have hX:∀ x,x∈(s.peer.log.drop s.peer.done.toNat).take (n.toNat-s.peer.done.toNat)→x.wf∧x.path.length≤1048576:=fun x hm=>by have hm2:=SJ (St hm);exact⟨h2.2.2.1.2 x hm2,hx x hm2⟩
 have hXl:((s.peer.log.drop s.peer.done.toNat).take (n.toNat-s.peer.done.toNat)).length=n.toNat-s.peer.done.toNat:=by rw[RV,RZ];omega
 have hXe:List.take (n.toNat-s.peer.done.toNat) (List.drop s.peer.done.toNat (s.peer.log.map ATxn.row))=((s.peer.log.drop s.peer.done.toNat).take (n.toNat-s.peer.done.toNat)).map ATxn.row:=by rw[Vb,US]
 generalize (s.peer.log.drop s.peer.done.toNat).take (n.toNat-s.peer.done.toNat)=X at hX hXl hXe ⊢;generalize hF:jm X ⟨s.tree,s.watches,[]⟩=F;simp only;refine zJ func115 ntmps115 results115 ?_;simp only[go_sem]
 (refine zW qw zn @hXe (z1 ?_)<;>(repeat with_reducible intro hc))
 all_goals try exact zk1
 refine Xa (Xf 7 3 rfl) ?_;simp only[go_sem];refine W9 (ι:=Nat×CSt) (fun v=>v.1≤X.length∧jm (X.drop v.1) v.2=F∧okT v.2.t∧v.2.n.length+v.2.w.length≤s.watches.length) (fun v=>X.length-v.1) [1,42,43] (fun v=>[(2,.ptr 0 0),(4,.ptr 1 0),(7,.osl 2 3 0 v.2.n.length),(44,I v.1)]) (fun v=>[.cells [B s.up,.d (.sl 3 (s.disk.files.map AFile.row)),I s.peer.id,I s.peer.epoch,.d (.sl 7 (s.peer.log.map ATxn.row)),I s.peer.done,I v.2.t.zxid,.d (.sl 9 (v.2.t.nodes.map XU.row)),.d (.sl 1 (v.2.t.sessions.map aY)),.d (.sl 3 (v.2.w.map AWatch.row))],.cells [B false,.d (.sc (.slice none 0 0)),I 0,I 0,.d (.sc (.slice none 0 0)),I 0,I 0,.d (.sc (.slice none 0 0)),.d (.sc (.slice none 0 0)),.d (.sc (.slice none 0 0))],.rows 3 (v.2.n.map XX.row)]) (0,⟨s.tree,s.watches,[]⟩) ?_ ?_ ?_
 ·exact⟨RX _,hF,ht,by simp⟩
 ·simp only[go_sem];exact zSm Yj
 intro⟨k,p⟩ ⟨hk,hr,hok,hlen⟩;simp only at hk hr hok hlen;simp only[go_sem]
 by_cases hk2:k<X.length
 case neg=>
  have hke:k=X.length:=by omega
  subst hke;rw[TG] at hr;subst hr;simp only[jm,S9];have t1:List.take p.n.length (p.n.map XX.row)=p.n.map XX.row:=RK (by simp)
  (refine zW qw zn @t1 (z1 ?_)<;>(repeat with_reducible intro hc))
  all_goals exact zEe @t1
 obtain⟨x1,x2⟩:=hX _ (bu X default hk2);rw[xN X k hk2] at hr;have hrow:∀ z,List.getD (List.map ATxn.row X) k z=(X.getD k default).row:=fun z=>ATxn.rgetD X k z hk2
 generalize X.getD k default=x at hr x1 x2 hrow;have hok2:=vC hok x1 x2;have hev:=BF (t:=p.t) (x:=x);have ha:=iz p.t x hok.1 x1.2.2.2.1 x1.2.2.2.2.1;have hwl:p.w.length*32≤140737488351232:=by have:=h4.1;omega
 by_cases he:(ah p.t x).2.2=0
 case neg=>
  rw[rv he] at hr;subst hr;generalize ah p.t x=q at he ha;obtain⟨a,es,e⟩:=q;simp only at he ha;simp only[RI he]
  (refine zW qw (z1 ha) (zx @hrow @ATxn.row.eq_1) (z1 ?_)<;>(repeat with_reducible intro hc))
  all_goals first|exact absurd hc he|skip
  all_goals exact zEe dfl
 rw[nM he] at hr;generalize ah p.t x=q at he ha hr hok2 hev;obtain⟨a,es,e⟩:=q;simp only at he ha hev;subst he;have hnl:=qY (a,es,0) p x;have hf:=O5 p.w es hwl (by omega);have hfl:=ju p.w es;have hdr:=Pv (cC p.w es).2 x.session (by omega);have hnx:jv (a,es,0) p x=⟨a,if x.op=2 then ib (cC p.w es).2 x.session else(cC p.w es).2,p.n++(cC p.w es).1⟩:=rfl;generalize cC p.w es=f at hf hfl hdr hnx;obtain⟨fn,fl⟩:=f;simp only at hf hfl hdr hnx;have t1:List.take p.n.length (p.n.map XX.row)=p.n.map XX.row:=RK (by simp)
 (refine zW qw (z3 ha hf hdr) (zx @hrow (zx @ATxn.row.eq_1 @t1)) (z2 ?_ ?_)<;>(repeat with_reducible intro hc))
 ·refine⟨(k+1,jv (a,es,0) p x),⟨by simp only;omega,hr,hok2,by simp only;omega⟩,by simp only;omega,?_⟩
  rw[hnx];simp only[RJ hc];exact zFr [0,1,5] (zx @t1 (zx @List.map_append.{0,0} @List.length_append.{0}))
 ·refine⟨(k+1,jv (a,es,0) p x),⟨by simp only;omega,hr,hok2,by simp only;omega⟩,by simp only;omega,?_⟩
  rw[hnx];simp only[RI hc];exact zFr [0,1,5] (zx @t1 (zx @List.map_append.{0,0} @List.length_append.{0}))
theorem pi(s:XV)(n:Int)(hw:s.wf)(ht:okT s.tree)(hx:∀ x,x∈s.peer.log→x.path.length≤1048576):ab prog [] 94 [s.av,I n] (ret (.tup [(au s n).1.av,.d (.sl 3 ((au s n).2.1.map XX.row)),I (au s n).2.2])):=by
 have hcp:=qa s hw;obtain⟨_,h1,h2,h3,h4⟩:=hw;have hl7:=h2.2.2.1.1
 by_cases hb:s.peer.done<0∨n<s.peer.done∨s.peer.log.length<n
 ·unfold au;rw[RJ hb]
  refine zJ func94 ntmps94 results94 ?_;simp only[go_sem]
  (refine zW qw zn Yj (z1 ?_)<;>(repeat with_reducible intro hc))
  all_goals try exact zk1
  all_goals exact zEe dfl
 unfold au;rw[RI hb];have hd0:0≤s.peer.done:=by omega
 have q3:s.peer.done.toNat≤n.toNat:=by omega
 have q4:n.toNat≤s.peer.log.length:=by omega
 have hX:∀ x,x∈(s.peer.log.drop s.peer.done.toNat).take (n.toNat-s.peer.done.toNat)→x.wf∧x.path.length≤1048576:=fun x hm=>by have hm2:=SJ (St hm);exact⟨h2.2.2.1.2 x hm2,hx x hm2⟩
 have hXl:((s.peer.log.drop s.peer.done.toNat).take (n.toNat-s.peer.done.toNat)).length=n.toNat-s.peer.done.toNat:=by rw[RV,RZ];omega
 have hXg:∀ k,k<n.toNat-s.peer.done.toNat→s.peer.log.getD (s.peer.done.toNat+k) default=((s.peer.log.drop s.peer.done.toNat).take (n.toNat-s.peer.done.toNat)).getD k default:=fun k hk=>by rw[RG,RG,Tc,RJ hk,SM]
 generalize (s.peer.log.drop s.peer.done.toNat).take (n.toNat-s.peer.done.toNat)=X at hX hXl hXg ⊢;generalize hF:jm X ⟨s.tree,s.watches,[]⟩=F;simp only;refine zJ func94 ntmps94 results94 ?_;simp only[go_sem]
 (refine zW qw (z1 hcp) Yj (z1 ?_)<;>(repeat with_reducible intro hc))
 all_goals try exact zk1
 refine Xa (Xf 7 3 rfl) ?_;simp only[go_sem];refine W9 (ι:=Nat×CSt) (fun v=>v.1≤X.length∧jm (X.drop v.1) v.2=F∧okT v.2.t∧v.2.n.length+v.2.w.length≤s.watches.length) (fun v=>X.length-v.1) [1] (fun v=>[(2,.ptr 0 0),(4,.ptr 1 0),(7,.osl 2 3 0 v.2.n.length)]) (fun v=>[.cells [B s.up,.d (.sl 3 (s.disk.files.map AFile.row)),I s.peer.id,I s.peer.epoch,.d (.sl 7 (s.peer.log.map ATxn.row)),I (s.peer.done+v.1),I v.2.t.zxid,.d (.sl 9 (v.2.t.nodes.map XU.row)),.d (.sl 1 (v.2.t.sessions.map aY)),.d (.sl 3 (v.2.w.map AWatch.row))],.cells [B false,.d (.sc (.slice none 0 0)),I 0,I 0,.d (.sc (.slice none 0 0)),I 0,I 0,.d (.sc (.slice none 0 0)),.d (.sc (.slice none 0 0)),.d (.sc (.slice none 0 0))],.rows 3 (v.2.n.map XX.row)]) (0,⟨s.tree,s.watches,[]⟩) ?_ ?_ ?_
 ·exact⟨RX _,hF,ht,by simp⟩
 ·simp only[go_sem,Int.natCast_zero,Wv];exact zSm Yj
 intro⟨k,p⟩ ⟨hk,hr,hok,hlen⟩;simp only at hk hr hok hlen;simp only[go_sem]
 by_cases hk2:k<X.length
 case neg=>
  have hke:k=X.length:=by omega
  subst hke;rw[TG] at hr;subst hr;simp only[jm,S9];have t1:List.take p.n.length (p.n.map XX.row)=p.n.map XX.row:=RK (by simp);have hdn:s.peer.done+(X.length:Int)=n:=by omega
  rw[hdn]
  (refine zW qw zn @t1 (z1 ?_)<;>(repeat with_reducible intro hc))
  all_goals try exact zk1
  all_goals exact zEe @t1
 have hxg:=hXg k (by omega);obtain⟨x1,x2⟩:=hX _ (bu X default hk2);rw[xN X k hk2] at hr;have hrow:∀ z,List.getD (List.map ATxn.row s.peer.log) (s.peer.done.toNat+k) z=(X.getD k default).row:=fun z=>by rw[ATxn.rgetD s.peer.log (s.peer.done.toNat+k) z (by omega),hxg]
 have hnat:(s.peer.done+(k:Int)).toNat=s.peer.done.toNat+k:=by omega
 generalize X.getD k default=x at hr x1 x2 hrow;have hok2:=vC hok x1 x2;have hev:=BF (t:=p.t) (x:=x);have ha:=dF p.t x hok.1 hok.2 x1.1 x2 x1.2.2.2.2.1;have hwl:p.w.length*32≤140737488351232:=by have:=h4.1;omega
 by_cases he:(ah p.t x).2.2=0
 case neg=>
  rw[rv he] at hr;subst hr;generalize ah p.t x=q at he ha;obtain⟨a,es,e⟩:=q;simp only at he ha;simp only[RI he]
  (refine zW qw (z1 ha) (zx @hnat (zx @hrow @ATxn.row.eq_1)) (z1 ?_)<;>(repeat with_reducible intro hc))
  all_goals first|exact absurd hc he|(exfalso;omega)|skip
  all_goals exact zEe dfl
 rw[nM he] at hr;generalize ah p.t x=q at he ha hr hok2 hev;obtain⟨a,es,e⟩:=q;simp only at he ha hev;subst he;have hnl:=qY (a,es,0) p x;have hf:=CP p.w es hwl (by omega);have hfl:=ju p.w es;have hdr:=DC (cC p.w es).2 x.session (by omega);have hnx:jv (a,es,0) p x=⟨a,if x.op=2 then ib (cC p.w es).2 x.session else(cC p.w es).2,p.n++(cC p.w es).1⟩:=rfl;generalize cC p.w es=f at hf hfl hdr hnx;obtain⟨fn,fl⟩:=f;simp only at hf hfl hdr hnx;have t1:List.take p.n.length (p.n.map XX.row)=p.n.map XX.row:=RK (by simp)
 (refine zW qw (z3 ha hf hdr) (zx @hnat (zx @hrow (zx @ATxn.row.eq_1 @t1))) (z2 ?_ ?_)<;>(repeat with_reducible intro hc))
 all_goals try exact zk1
 ·refine⟨(k+1,jv (a,es,0) p x),⟨by simp only;omega,hr,hok2,by simp only;omega⟩,by simp only;omega,?_⟩
  rw[hnx];simp only[RJ hc];exact zFr [0,1,5] (zx @t1 (zx @List.map_append.{0,0} (zx @List.length_append.{0} @Int.add_assoc)))
 ·refine⟨(k+1,jv (a,es,0) p x),⟨by simp only;omega,hr,hok2,by simp only;omega⟩,by simp only;omega,?_⟩
  rw[hnx];simp only[RI hc];exact zFr [0,1,5] (zx @t1 (zx @List.map_append.{0,0} (zx @List.length_append.{0} @Int.add_assoc)))
def cz(t:XW):List ATxn→Option XW
 |[]=>some t
 |x::r=>if(ah t x).2.2=0 then cz (ah t x).1 r else none
theorem rt(a b:List ATxn):∀ t,cz t (a++b)=(cz t a).bind fun u=>cz u b:=by
 induction a with
 |nil=>intro t;rfl
 | cons x a ih=>
   intro t;rw[SB,cz,cz];split
   ·exact ih _
   ·rfl
theorem la{t u:XW}{l:List ATxn}(h:cz t l=some u)(k:Nat):∃ v,cz t (l.take k)=some v:=by
 rw[←SN k l,rt] at h;cases e:cz t (l.take k) with
 |none=>rw[e] at h;cases h
 |some v=>exact⟨v,rfl⟩
theorem GG{t u v:XW}{a b:List ATxn}(h1:cz t a=some u)(h2:cz t (a++b)=some v):cz u b=some v:=by rw[rt,h1] at h2;exact h2
theorem wG:∀(X:List ATxn) (p:CSt) {v:XW},cz p.t X=some v→(jm X p).2=0∧(jm X p).1.t=v
 |[],p,v,h=>by injection h with h;exact⟨rfl,h⟩
 | x :: X,p,v,h=>by
   rw[cz] at h;split at h
   ·rename_i he
    rw[nM he];exact wG X (jv (ah p.t x) p x) h
   ·cases h
structure X9 (s:XV) (e:Option (List UInt8)) (a:Nat):Prop where
 up:s.up=true
 disk:s.disk.files=mkD e (encs (s.peer.log.take a)) (encs (s.peer.log.drop a))
 le:a≤s.peer.log.length
 log:logOk s.peer.log
 small:(encs s.peer.log).length≤1048576
 elen:∀ x,e=some x→x.length≤1048576
 d0:0≤s.peer.done
 dl:s.peer.done≤s.peer.log.length
 tree:cz t00 (s.peer.log.take s.peer.done.toNat)=some s.tree
 play:∃ v,cz t00 s.peer.log=some v
theorem gM(l:List ATxn)(a:Nat):encs (l.take a)++encs (l.drop a)=encs l:=by rw[←AH,SN]
theorem X9.okD{s:XV}{e:Option (List UInt8)}{a:Nat}(h:X9 s e a):okD e (encs (s.peer.log.take a)) (encs (s.peer.log.drop a)):=
 ⟨h.elen,by rw[←RL,gM];exact h.small⟩
theorem X9.scan{s:XV}{e:Option (List UInt8)}{a:Nat}(h:X9 s e a):scanT (encs s.peer.log)=(s.peer.log,(encs s.peer.log).length):=by have:=BY h.log (rest:=[]) Ew;rwa[Se] at this
theorem X9.recovers{s:XV}{e:Option (List UInt8)}{a:Nat}(h:X9 s e a):recoverD s.disk.files=(s.peer.log,⟨mkD e (encs s.peer.log) []⟩,0):=by rw[h.disk,kR h.okD,gM,h.scan]
theorem X9.good{s:XV}{e:Option (List UInt8)}{a:Nat}(h:X9 s e a):bF s.disk.files=true:=by rw[h.disk];exact go h.okD
theorem X9.take{s:XV}{e:Option (List UInt8)}{a:Nat}(h:X9 s e a){x:ATxn}(hx:aT x=0)(hz:aA s.peer.log<x.zxid)(hl:(encs s.peer.log).length+(cE x).1.length≤1048576)(hp:∃ v,cz t00 (s.peer.log++[x])=some v)(safe:Bool) :
  ∃ d,bg s x safe=(⟨s.up,d,⟨s.peer.id,s.peer.epoch,s.peer.log++[x],s.peer.done⟩,s.tree,s.watches⟩,0)∧X9 ⟨s.up,d,⟨s.peer.id,s.peer.epoch,s.peer.log++[x],s.peer.done⟩,s.tree,s.watches⟩ e (if safe then s.peer.log.length+1 else a):=by
 have hle:=h.le;have hlen:(encs (s.peer.log.take a)).length+(encs (s.peer.log.drop a)).length=(encs s.peer.log).length:=by rw[←RL,gM]
 have hap:=G3 h.okD hx (by omega) safe;refine⟨(cI s.disk.files x safe).1,?_,?_⟩
 ·unfold bg
  rw[RI (by omega),RJ (by rw[h.disk,hap])]
 ·have hd:(cI s.disk.files x safe).1.files=mkD e (encs ((s.peer.log++[x]).take (if safe then s.peer.log.length+1 else a))) (encs ((s.peer.log++[x]).drop (if safe then s.peer.log.length+1 else a))):=by
   rw[h.disk,hap];cases safe with
   | true=>
     simp only[S9];have e1:(s.peer.log++[x]).take (s.peer.log.length+1)=s.peer.log++[x]:=RK (by simp);have e2:(s.peer.log++[x]).drop (s.peer.log.length+1)=[]:=Ug (by simp);rw[e1,e2,fI,iV,←Sq,gM]
   | false=>
     simp only[Tb,Tj];rw[Sm hle,Tu hle,iV]
  refine⟨h.up,hd,?_,kT h.log (fun _=>hz) hx,by simp only;rw[iV,RL];exact hl,h.elen,h.d0,?_,?_,hp⟩
  ·simp only[RL,Sv];split<;>omega
  ·have:=h.dl;simp only[RL,Sv];omega
  ·have:=h.dl;have:=h.d0
   simp only;rw[Sm (by omega)];exact h.tree
structure Yc (s:XV) (e:Option (List UInt8)) (l:List ATxn):Prop where
 up:s.up=false
 disk:∃ c,s.disk.files=mkD e c []∧c.length≤1048576∧(scanT c).1=l
 elen:∀ x,e=some x→x.length≤1048576
 log:s.peer.log=[]
 done:s.peer.done=0
 ep:s.peer.epoch=0
 tree:s.tree=t00
 watches:s.watches=[]
 play:∃ v,cz t00 l=some v
theorem X9.crash{s:XV}{e:Option (List UInt8)}{a:Nat}(h:X9 s e a){keep:Int}(hk:0≤keep):∃ k,a≤k∧k≤s.peer.log.length∧(bR s keep).2=0∧Yc (bR s keep).1 e (s.peer.log.take k)∧(bR s keep).1.peer.id=s.peer.id:=by
 have hc:=L9 h.okD hk;have hle:=h.le
 have hpre:encs (s.peer.log.take a)++(encs (s.peer.log.drop a)).take keep.toNat=(encs s.peer.log).take ((encs (s.peer.log.take a)).length+keep.toNat):=by
  conv=>rhs;rw[←gM s.peer.log a]
  rw[Wn,RK (Vy _ _),Wo]
 obtain⟨k,k1,k2,k3⟩:=K4 h.log ((encs (s.peer.log.take a)).length+keep.toNat);have he:eI s.disk.files keep=(⟨mkD e ((encs s.peer.log).take ((encs (s.peer.log.take a)).length+keep.toNat)) []⟩,0):=by rw[h.disk,hc,hpre]
 have hs:bR s keep=(⟨false,⟨mkD e ((encs s.peer.log).take ((encs (s.peer.log.take a)).length+keep.toNat)) []⟩,⟨s.peer.id,0,[],0⟩,t00,[]⟩,0):=by unfold bR;rw[he,RJ rfl]
 refine⟨k,k3 a hle (Vy _ _),k1,by rw[hs],?_,by rw[hs]⟩;rw[hs];exact⟨rfl,⟨_,rfl,by rw[RV];have:=h.small;omega,by rw[k2]⟩,h.elen,rfl,rfl,rfl,rfl,rfl,by obtain⟨v,hv⟩:=h.play;exact la hv k⟩
theorem Yc.logOk{s:XV}{e:Option (List UInt8)}{l:List ATxn}(h:Yc s e l):logOk l:=by obtain⟨c,_,_,h3⟩:=h.disk;rw[←h3];exact(pK c).1
theorem Yc.good{s:XV}{e:Option (List UInt8)}{l:List ATxn}(h:Yc s e l):bF s.disk.files=true:=by obtain⟨c,h1,h2,_⟩:=h.disk;rw[h1];exact go ⟨h.elen,by simpa using h2⟩
theorem Yc.recovers{s:XV}{e:Option (List UInt8)}{l:List ATxn}(h:Yc s e l):recoverD s.disk.files=(l,⟨mkD e (encs l) []⟩,0)∧(encs l).length≤1048576:=by obtain⟨c,h1,h2,h3⟩:=h.disk;have hr:=kR (e:=e) (s:=c) (t:=[]) ⟨h.elen,by simpa using h2⟩;have hsm:=Da c;rw[Se,h3] at hr;rw[h3] at hsm;exact⟨by rw[h1,hr],by omega⟩
theorem Yc.boot{s:XV}{e:Option (List UInt8)}{l:List ATxn}(h:Yc s e l)(id ep:Int):X9 ⟨true,⟨mkD e (encs l) []⟩,⟨id,ep,l,0⟩,t00,[]⟩ e l.length:=by
 refine⟨rfl,?_,RP _,h.logOk,h.recovers.2,h.elen,SP _,by simp,?_,h.play⟩
 ·simp only;rw[R7,TG,fI]
 ·show cz t00 (l.take 0)=some t00
  rw[Tf];rfl
theorem X9.commit{s:XV}{e:Option (List UInt8)}{a:Nat}(h:X9 s e a){n:Int}(h1:s.peer.done≤n)(h2:n≤s.peer.log.length) :
  ∃ t w ns,au s n=(⟨s.up,s.disk,⟨s.peer.id,s.peer.epoch,s.peer.log,n⟩,t,w⟩,ns,0)∧X9 ⟨s.up,s.disk,⟨s.peer.id,s.peer.epoch,s.peer.log,n⟩,t,w⟩ e a:=by
 have h0:=h.d0;have hdl:=h.dl;obtain⟨v,hv⟩:=h.play;obtain⟨u,hu⟩:=la hv n.toNat
 have hsplit:s.peer.log.take n.toNat=s.peer.log.take s.peer.done.toNat++(s.peer.log.drop s.peer.done.toNat).take (n.toNat-s.peer.done.toNat):=by
  conv=>lhs;rw[show n.toNat=s.peer.done.toNat+(n.toNat-s.peer.done.toNat) from by omega]
  rw[Wb]
 have hu2:=hu;rw[hsplit] at hu2;have hm:=GG h.tree hu2;obtain⟨r1,r2⟩:=wG _ ⟨s.tree,s.watches,[]⟩ hm;have hc:¬ (s.peer.done<0∨n<s.peer.done∨(s.peer.log.length:Int)<n):=by omega
 generalize hR:jm ((s.peer.log.drop s.peer.done.toNat).take (n.toNat-s.peer.done.toNat)) ⟨s.tree,s.watches,[]⟩=R at r1 r2;refine⟨R.1.t,R.1.w,R.1.n,?_,?_⟩
 ·unfold au;rw[RI hc];simp only;rw[hR,RJ r1]
 ·exact⟨h.up,h.disk,h.le,h.log,h.small,h.elen,by simp only;omega,h2,by simp only;rw[r2];exact hu,h.play⟩
def gC(l:List AFile):Int:=if(readD l epN).2≠0 then 0 else if(dw (readD l epN).1).2≠0 then 0 else epZ (dw (readD l epN).1).1
def ba(l:List AFile)(ep:Int):X4×Int:=
 if(mkZ ep 0).2≠0 then(default,(mkZ ep 0).2) else
 if(aD (if(bn l epN).2=0 then(bn l epN).1.files else l) epN (fu (mkZ ep 0).1)).2≠0 then(default,(aD (if(bn l epN).2=0 then(bn l epN).1.files else l) epN (fu (mkZ ep 0).1)).2) else
 bo (aD (if(bn l epN).2=0 then(bn l epN).1.files else l) epN (fu (mkZ ep 0).1)).1.files epN lT
def cK(id:Int)(l:List AFile):XV×Int:=
 if id<0∨2<id then(default,3) else if(recoverD l).2.2≠0 then(default,(recoverD l).2.2) else(⟨true,(recoverD l).2.1,⟨id,gC l,(recoverD l).1,0⟩,t00,[]⟩,0)
def bp:List ATxn→List ATxn→Nat
 |x::a,y::b=>if x.zxid=y.zxid then bp a b+1 else 0
 |_,_=>0
def eS(s:XV):List ATxn→XV×Int
 |[]=>(s,0)
 |x::r=>if(bg s x true).2=0 then eS (bg s x true).1 r else(default,(bg s x true).2)
def ef(l:List ATxn)(k:Nat):Int:=if 0<k then(l.getD (k-1) default).zxid else -1
def aG(s:XV)(l:List ATxn)(ep:Int):XV×Int:=
 if(bp l s.peer.log:Int)<s.peer.done then(default,13) else
 if(keepD s.disk.files (ef l (bp l s.peer.log))).2≠0 then(default,(keepD s.disk.files (ef l (bp l s.peer.log))).2) else
 if(ba (keepD s.disk.files (ef l (bp l s.peer.log))).1.files ep).2≠0 then(default,(ba (keepD s.disk.files (ef l (bp l s.peer.log))).1.files ep).2) else
 eS ⟨s.up,(ba (keepD s.disk.files (ef l (bp l s.peer.log))).1.files ep).1,⟨s.peer.id,ep,s.peer.log.take (bp l s.peer.log),s.peer.done⟩,s.tree,s.watches⟩ (l.drop (bp l s.peer.log))
theorem jq:∀(a b:List ATxn),bp a b≤a.length∧bp a b≤b.length
 |[],_=>⟨RX _,RX _⟩
 |_::_,[]=>⟨RX _,RX _⟩
 | x::a,y::b=>by
   have:=jq a b;unfold bp;split
   ·simp only[RQ];omega
   ·exact⟨RX _,RX _⟩
theorem oB:∀(a b:List ATxn) (j:Nat),j<bp a b→(a.getD j default).zxid=(b.getD j default).zxid
 |[],_,_,h=>by simp[bp] at h
 |_::_,[],_,h=>by simp[bp] at h
 | x :: a,y::b,j,h=>by
   unfold bp at h;split at h
   ·rename_i e
    rcases j with _|j
    ·exact e
    ·simpa using oB a b j (by omega)
   ·omega
theorem mO{ep:Int}(h0:0≤ep)(h1:ep≤2147483647):mkZ ep 0=(ep*2147483648,0)∧bd (ep*2147483648)∧epZ (ep*2147483648)=ep:=by
 have hg:bd (ep*2147483648):=by unfold bd;omega
 refine⟨?_,hg,?_⟩
 ·unfold mkZ;rw[RI (by unfold me;omega)];simp
 ·unfold epZ;rw[RJ hg];omega
def epB(ep:Int):List UInt8:=fu (ep*2147483648)
theorem yu{ep:Int}(h0:0≤ep)(h1:ep≤2147483647):(epB ep).length≤21:=xY (mO h0 h1).2.1
theorem K7{ep:Int}(h0:0≤ep)(h1:ep≤2147483647){s t:List UInt8}(h:s.length+t.length≤1048576):gC (mkD (some (epB ep)) s t)=ep:=by obtain⟨_,g2,g3⟩:=mO h0 h1;have hl:=yu h0 h1;have hr:=I8 (x:=epB ep) (s:=s) (t:=t) ⟨fun x hx=>by injection hx with hx;subst hx;omega,h⟩;have hz:dw (epB ep)=(ep*2147483648,0):=Gd g2;unfold gC;rw[hr,RI (fun h=>h rfl),hz,RI (fun h=>h rfl)];exact g3
theorem D3{s t:List UInt8}(h:s.length+t.length≤1048576):gC (mkD none s t)=0:=by have hr:=J7 (s:=s) (t:=t) ⟨(fun x hx=>by cases hx),h⟩;unfold gC;rw[hr,RJ (by decide)]
theorem AQ{ep:Int}(h0:0≤ep)(h1:ep≤2147483647){e:Option (List UInt8)}{s t:List UInt8}(h:okD e s t):ba (mkD e s t) ep=(⟨mkD (some (epB ep)) s t⟩,0):=by
 obtain⟨g1,g2,_⟩:=mO h0 h1;have hl:=yu h0 h1;have hn:okD none s t:=⟨fun x hx=>(by cases hx),h.2⟩
 have hrm:(if(bn (mkD e s t) epN).2=0 then(bn (mkD e s t) epN).1.files else mkD e s t)=mkD none s t:=by
  cases e with
  |none=>rw[D9 hn,RI (by decide)]
  |some x=>rw[CX h,RJ rfl]
 unfold ba;rw[g1,RI (fun h=>h rfl),hrm];simp only;rw[show fu (ep*2147483648)=epB ep from rfl,Ig hn (by omega),RI (fun h=>h rfl)];exact M6 hn (by omega)
theorem zK{l:List ATxn}(h:logOk l)(k:Nat)(hk:k≤l.length){z:Int}(hz:if 0<k then(l.getD (k-1) default).zxid=z else z=-1):keepL l z=l.take k:=by
 have h0:∀ j,j<l.length→0≤(l.getD j default).zxid:=fun j hj=>(gg (h.2 _ (aZ l j hj))).1.1
 refine uZ h hk (fun j hj=>?_) (fun hlt=>?_)
 ·rw[RJ (by omega)] at hz
  by_cases e:j=k-1
  ·subst e;omega
  ·have:=iZ h (show j<k-1 by omega) (by omega)
   omega
 ·by_cases hk0:0<k
  ·rw[RJ hk0] at hz
   have:=iZ h (show k-1<k by omega) hlt;omega
  ·rw[RI hk0] at hz
   have:=h0 k hlt;omega
theorem HG{x:ATxn}{r:List ATxn}{v:XW}(h:cz t00 (x::r)=some v):0<x.zxid:=by
 rw[cz] at h;split at h
 ·rename_i he
  unfold ah at he;split at he
  ·rename_i hw;exact absurd he hw
  ·rename_i hw
   have:=(cm (TA.1 hw)).2.2.1;exact this
 ·cases h
theorem X9.takes:∀(r:List ATxn) {s:XV} {e:Option (List UInt8)},X9 s e s.peer.log.length→logOk (s.peer.log++r)→(encs (s.peer.log++r)).length≤1048576→(∃ v,cz t00 (s.peer.log++r)=some v)→
  ∃ d,eS s r=(⟨s.up,d,⟨s.peer.id,s.peer.epoch,s.peer.log++r,s.peer.done⟩,s.tree,s.watches⟩,0)∧X9 ⟨s.up,d,⟨s.peer.id,s.peer.epoch,s.peer.log++r,s.peer.done⟩,s.tree,s.watches⟩ e (s.peer.log++r).length
 |[],s,e,h,_,_,_=>⟨s.disk,by rw[Se];rfl,by rw[Se];exact h⟩
 | x :: r,s,e,h,ho,hl,hp=>by
   have hx:aT x=0:=ho.2 x (by simp)
   have hz:aA s.peer.log<x.zxid:=by
    by_cases h0:0<s.peer.log.length
    ·rw[d5 h0]
     have:=iZ ho (i:=s.peer.log.length-1) (j:=s.peer.log.length) (by omega) (by simp);rw[RG,R2 (by omega),←RG,RG (i:=s.peer.log.length),RT (RP _),Ty] at this;exact this
    ·have hn:s.peer.log=[]:=Sf (by omega)
     obtain⟨v,hv⟩:=hp;rw[hn,Sx] at hv;rw[hn,gS];exact HG hv
   have hl1:(encs s.peer.log).length+(cE x).1.length≤1048576:=by rw[AH,eH,RL,RL] at hl;omega
   have hp1:∃ v,cz t00 (s.peer.log++[x])=some v:=by
    obtain⟨v,hv⟩:=hp
    have:=la hv (s.peer.log.length+1);rwa[Wn,RK (by omega),Wo,Tl,Tf] at this
   obtain⟨d,t1,t2⟩:=h.take hx hz hl1 hp1 true;rw[RJ rfl] at t2;have e1:s.peer.log++x::r=(s.peer.log++[x])++r:=by simp
   obtain⟨d2,q1,q2⟩:=X9.takes r (s:=⟨s.up,d,⟨s.peer.id,s.peer.epoch,s.peer.log++[x],s.peer.done⟩,s.tree,s.watches⟩) (e:=e) (by simp only[RL,Sv];exact t2) (by simp only;rw[←e1];exact ho) (by simp only;rw[←e1];exact hl) (by simp only;rw[←e1];exact hp);simp only at q1 q2;rw[←e1] at q1 q2;exact⟨d2,by rw[eS,t1,RJ rfl];exact q1,q2⟩
theorem X9.follow{s:XV}{e:Option (List UInt8)}{a:Nat}(h:X9 s e a){l:List ATxn}(ho:logOk l)(hl:(encs l).length≤1048576)(hp:∃ v,cz t00 l=some v){ep:Int}(h0:0≤ep)(h1:ep≤2147483647)
  (hm:l.take (bp l s.peer.log)=s.peer.log.take (bp l s.peer.log)) (hd:s.peer.done≤bp l s.peer.log) :
  ∃ d,aG s l ep=(⟨s.up,d,⟨s.peer.id,ep,l,s.peer.done⟩,s.tree,s.watches⟩,0)∧X9 ⟨s.up,d,⟨s.peer.id,ep,l,s.peer.done⟩,s.tree,s.watches⟩ (some (epB ep)) l.length:=by
 obtain⟨k1,k2⟩:=jq l s.peer.log;have ke:=oB l s.peer.log;have hd0:=h.d0;unfold aG;generalize bp l s.peer.log=k at k1 k2 ke hm hd ⊢
 have hkeep:keepD s.disk.files (ef l k)=(⟨mkD e (encs (s.peer.log.take k)) []⟩,0):=by
  rw[h.disk,N1 h.okD,gM,h.scan];simp only;rw[zK h.log k k2];unfold ef;split
  ·exact(ke (k-1) (by omega)).symm
  ·rfl
 have hsm:(encs (s.peer.log.take k)).length≤1048576:=R8 (g9 _ _) h.small;have hrem:=AQ (ep:=ep) h0 h1 (e:=e) (s:=encs (s.peer.log.take k)) (t:=[]) ⟨h.elen,by simpa using hsm⟩;rw[RI (by omega),hkeep,RI (fun h=>h rfl),hrem,RI (fun h=>h rfl)];have hep:=yu h0 h1
 have hu:X9 ⟨s.up,⟨mkD (some (epB ep)) (encs (s.peer.log.take k)) []⟩,⟨s.peer.id,ep,s.peer.log.take k,s.peer.done⟩,s.tree,s.watches⟩ (some (epB ep)) (s.peer.log.take k).length:=by
  refine⟨h.up,?_,RP _,oz h.log k,hsm,fun x hx=>by injection hx with hx;subst hx;omega,hd0,?_,?_,?_⟩
  ·simp only;rw[R7,TG,fI]
  ·simp only;rw[RV];omega
  ·simp only;rw[TU,SC (by omega)];exact h.tree
  ·obtain⟨v,hv⟩:=h.play;exact la hv k
 have hj:s.peer.log.take k++l.drop k=l:=by rw[←hm,SN]
 obtain⟨d,q1,q2⟩:=X9.takes (l.drop k) hu (by simp only;rw[hj];exact ho) (by simp only;rw[hj];exact hl) (by simp only;rw[hj];exact hp);simp only at q1 q2;rw[hj] at q1 q2;exact⟨d,q1,q2⟩
structure AWorld where
 sv:List XV
 cl:List X0
 leader:Int
 fl:List Bool
 done:List ATxn
 deeds:Int
namespace AWorld
def s(w:AWorld)(i:Nat):XV:=w.sv.getD i default
def c(w:AWorld)(i:Nat):X0:=w.cl.getD i default
def f(w:AWorld)(i:Nat):Bool:=w.fl.getD i false
def setS(w:AWorld)(i:Nat)(s:XV):AWorld:={ w with sv:=w.sv.set i s }
def setC(w:AWorld)(i:Nat)(c:X0):AWorld:={ w with cl:=w.cl.set i c }
def setF(w:AWorld)(i:Nat)(b:Bool):AWorld:={ w with fl:=w.fl.set i b }
def resign(w:AWorld):AWorld:={ w with leader:=-1,fl:=[false,false,false] }
end AWorld
def je:AWorld:=⟨(List.range 3).map fun(i:Nat)=>(cK (i:Int) []).1,(List.range 16).map fun(i:Nat)=>⟨(i:Int)+1,0,[]⟩,-1,[false,false,false],[],0⟩
def noR(e:Int):X2:=⟨e,0,[],[],default,[]⟩
def oM(n:Int)(i:Nat):Bool:=decide ((n/2^i)%2=1)
def iv(w:AWorld)(i:Nat)(keep:Int):AWorld×X2:=
 if(w.s i).up=false then(w,noR 14) else
 if(bR (w.s i) keep).2≠0 then(w,noR (bR (w.s i) keep).2) else
 (if w.leader=i then((w.setS i (bR (w.s i) keep).1).setF i false).resign else(w.setS i (bR (w.s i) keep).1).setF i false,noR 0)
def upW(w:AWorld)(i:Nat):AWorld×X2:=
 if(w.s i).up=true then(w,noR 8) else
 if(cK i (w.s i).disk.files).2≠0 then(w,noR (cK i (w.s i).disk.files).2) else
 (w.setS i (cK i (w.s i).disk.files).1,noR 0)
def dk(w:AWorld)(ns:List XX):AWorld:={ w with cl:=w.cl.map fun c=>⟨c.session,c.seen,dZ c.session c.cache ns⟩ }
def bI(l:List ATxn)(ep:Int):List Nat→AWorld→List XX→AWorld×List XX×Int
 |[],w,ns=>(w,ns,0)
 | i::r,w,ns=>
   if(w.s i).up=false then bI l ep r w ns else
   if(aG (w.s i) l ep).2≠0 then(w,ns,(aG (w.s i) l ep).2) else
   if(au (aG (w.s i) l ep).1 l.length).2.2≠0 then(w,ns,(au (aG (w.s i) l ep).1 l.length).2.2) else
   bI l ep r ((w.setS i (au (aG (w.s i) l ep).1 l.length).1).setF i true) (ns++(au (aG (w.s i) l ep).1 l.length).2.1)
def bQ(w:AWorld):List X3:=(w.sv.filter fun s=>s.up).map XV.peer
def dg(w:AWorld):AWorld×X2:=
 if(bS (bQ w)).2.2≠0 then(w,noR (bS (bQ w)).2.2) else
 let b:=(bQ w).getD (bS (bQ w)).1.toNat default
 let r:=bI b.log (bS (bQ w)).2.1 [0,1,2] w.resign []
 if r.2.2≠0 then(r.1,noR r.2.2) else
 (dk { r.1 with leader:=b.id } r.2.1,⟨0,aA b.log,[],[],default,r.2.1⟩)
def bU(x:ATxn)(lead lost slow:Int):List Nat→AWorld→List Nat→AWorld×List Nat×Int
 |[],w,hv=>(w,hv,0)
 | i::r,w,hv=>
   if w.f i=false then bU x lead lost slow r w hv else
   if ¬ lead=i∧oM lost i=true then bU x lead lost slow r (w.setF i false) hv else
   if(bg (w.s i) x (decide (lead=i)||!oM slow i)).2≠0 then(w,hv,(bg (w.s i) x (decide (lead=i)||!oM slow i)).2) else
   bU x lead lost slow r (w.setS i (bg (w.s i) x (decide (lead=i)||!oM slow i)).1) (if decide (lead=i)||!oM slow i then hv++[i] else hv)
def bj:List Nat→AWorld→List XX→AWorld×List XX×Int
 |[],w,ns=>(w,ns,0)
 | i::r,w,ns=>
   if(au (w.s i) (w.s i).peer.log.length).2.2≠0 then(w,ns,(au (w.s i) (w.s i).peer.log.length).2.2) else
   bj r (w.setS i (au (w.s i) (w.s i).peer.log.length).1) (ns++(au (w.s i) (w.s i).peer.log.length).2.1)
def lP(w:AWorld)(who:Nat)(x:ATxn)(hv:List Nat):AWorld×X2:=
 let r:=bj hv w []
 if r.2.2≠0 then(r.1,noR r.2.2) else
 let u:=dk { r.1 with done:=r.1.done++[x] } r.2.1
 if(gv (u.c who) x.zxid).2≠0 then(u,noR (gv (u.c who) x.zxid).2) else
 (u.setC who (gv (u.c who) x.zxid).1,⟨0,x.zxid,x.path,[],(aw (u.s u.leader.toNat).tree x.path).1.stat,r.2.1⟩)
def kP(w:AWorld)(d:X1):XY:=⟨d.request.op,(w.c d.client.toNat).session,d.request.path,d.request.data,d.request.version,d.request.flags⟩
def dy(w:AWorld)(d:X1):AWorld×X2:=
 if d.client<0∨16≤d.client then(w,noR 3) else
 if w.leader<0 then(w,noR 14) else
 if(cD (w.s w.leader.toNat).peer).2≠0 then(w,noR (cD (w.s w.leader.toNat).peer).2) else
 let p:=bA (w.s w.leader.toNat).tree (cD (w.s w.leader.toNat).peer).1 (kP w d)
 if p.2≠0 then(w,noR p.2) else
 let r:=bU p.1 w.leader d.lost d.slow [0,1,2] w []
 if r.2.2≠0 then(r.1,noR r.2.2) else
 if r.2.1.length<2 then(r.1.resign,⟨16,p.1.zxid,[],[],default,[]⟩) else
 lP r.1 d.client.toNat p.1 r.2.1
def ig(w:AWorld)(d:X1):AWorld×X2:=
 if d.client<0∨16≤d.client∨d.server<0∨3≤d.server then(w,noR 3) else
 let i:=d.server.toNat
 let k:=d.client.toNat
 if(w.s i).up=false then(w,noR 14) else
 if(gv (w.c k) (w.s i).tree.zxid).2≠0 then(w,noR (gv (w.c k) (w.s i).tree.zxid).2) else
 let c:=(gv (w.c k) (w.s i).tree.zxid).1
 let n:=aw (w.s i).tree d.request.path
 if d.watch=true then
  let a:=jH (w.s i).watches ⟨c.session,1,d.request.path⟩
  if a.2≠0 then(w,noR a.2) else
  ((w.setS i { w.s i with watches:=a.1 }).setC k ⟨c.session,c.seen,fR c.cache ⟨d.request.path,n.1.data,decide (n.2=0)⟩⟩,
   ⟨n.2,(w.s i).tree.zxid,n.1.path,n.1.data,n.1.stat,[]⟩)
 else(w.setC k c,⟨n.2,(w.s i).tree.zxid,n.1.path,n.1.data,n.1.stat,[]⟩)
def qD(w:AWorld)(d:X1):AWorld×X2:=
 if d.kind=1 then dy w d else if d.kind=2 then ig w d else if d.kind=5 then dg w else
 if d.kind=3∨d.kind=4 then
  if d.server<0∨3≤d.server then(w,noR 3) else if d.kind=4 then upW w d.server.toNat else iv w d.server.toNat d.keep
 else(w,noR 4)
def doW(w:AWorld)(d:X1):AWorld×X2:=
 if 300≤w.deeds then(w,noR 6) else qD { w with deeds:=w.deeds+1 } d
structure Gh where
 D:List ATxn
 a:Nat
 E:Int
def Two(P:Nat→Prop):Prop:=∃ i j,i<3∧j<3∧i≠j∧P i∧P j
theorem Two.mono{P Q:Nat→Prop}(h:Two P)(hq:∀ i,i<3→P i→Q i):Two Q:=by obtain⟨i,j,h1,h2,h3,h4,h5⟩:=h;exact⟨i,j,h1,h2,h3,hq i h1 h4,hq j h2 h5⟩
theorem Two.meet{P Q:Nat→Prop}(h:Two P)(h2:Two Q):∃ i,i<3∧P i∧Q i:=by
 obtain⟨i,j,a1,a2,a3,a4,a5⟩:=h;obtain⟨k,m,b1,b2,b3,b4,b5⟩:=h2
 by_cases e1:i=k
 ·subst e1;exact⟨i,a1,a4,b4⟩
 by_cases e2:i=m
 ·subst e2;exact⟨i,a1,a4,b5⟩
 by_cases e3:j=k
 ·subst e3;exact⟨j,a2,a5,b4⟩
 have e4:j=m:=by omega
 subst e4;exact⟨j,a2,a5,b5⟩
def Old(ld es:Int)(L:List ATxn)(n:Nat)(z:Int):Prop:=0≤z∧z/2147483648≤es∧z%2147483648≤n∧(0≤ld→z/2147483648<es∨z≤aA L)
structure Pr (g:Nat→Gh) (ld es:Int) (K:List ATxn) (n:Nat):Prop where
 log:∀ j,j<3→logOk (g j).D
 al:∀ j,j<3→(g j).a≤(g j).D.length
 pos:∀ j,j<3→∀ x,x∈(g j).D→0<x.zxid
 old:∀ j,j<3→∀ x,x∈(g j).D→Old ld es (g ld.toNat).D n x.zxid
 es0:0≤es
 esn:es≤n
 E0:∀ j,j<3→0≤(g j).E∧(g j).E≤n
 q:Two fun j=>es≤(g j).E
 one:∀ i j,i<3→j<3→∀ x y,x∈(g i).D→y∈(g j).D→x.zxid=y.zxid→x=y
 k1:Two fun j=>K <+: (g j).D∧K.length≤(g j).a
 k2:∀ j,j<3→aA K≤aA (g j).D→K <+: (g j).D
 k3:0≤ld→K <+: (g ld.toNat).D
 ld0:0≤ld→ld<3∧(g ld.toNat).E=es
def upd(g:Nat→Gh)(j:Nat)(x:Gh):Nat→Gh:=fun i=>if i=j then x else g i
theorem dI(g:Nat→Gh)(j:Nat)(x:Gh):upd g j x j=x:=by unfold upd;rw[RJ rfl]
theorem ck(g:Nat→Gh){j i:Nat}(x:Gh)(h:i≠j):upd g j x i=g i:=by unfold upd;rw[RI h]
theorem gl{l:List ATxn}(h:l≠[]):∃ x,x∈l∧x.zxid=aA l:=by have hp:=TY.2 h;exact⟨_,aZ l (l.length-1) (by omega),(d5 hp).symm⟩
theorem pG{l:List ATxn}(h:logOk l){x:ATxn}(hx:x∈l):x.zxid≤aA l:=by
 obtain⟨k,hk,rfl⟩:=Tm hx;rw[d5 (by omega)];have e:l[k]=l.getD k default:=by rw[RG,RH hk];rfl
 rw[e]
 by_cases h2:k=l.length-1
 ·subst h2;exact SP _
 ·exact UR (iZ h (by omega) (by omega))
theorem fg{l:List ATxn}(h:∀ x,x∈l→0<x.zxid):0≤aA l:=by
 by_cases e:l=[]
 ·subst e;exact SP _
 ·obtain⟨x,h1,h2⟩:=gl e
  have:=h x h1;omega
theorem Dx{l:List ATxn}(h:logOk l)(hp:∀ x,x∈l→0<x.zxid)(k:Nat):aA (l.take k)≤aA l:=by
 by_cases e:l.take k=[]
 ·rw[e];exact fg hp
 ·obtain⟨x,h1,h2⟩:=gl e
  rw[←h2];exact pG h (St h1)
theorem KY{l K:List ATxn}(h:logOk l)(hp:∀ x,x∈l→0<x.zxid)(hK:K <+: l){k:Nat}(hz:aA K≤aA (l.take k)):K <+: l.take k:=by
 have e:=UJ.1 hK;have hl:=hK.length_le;refine UJ.2 ?_
 by_cases hk:K.length≤k
 ·rw[TU,SC hk];exact e
 ·exfalso
  have hK0:0<K.length:=by omega
  have z1:aA K=(l.getD (K.length-1) default).zxid:=by obtain⟨t,ht⟩:=hK;rw[←ht,d5 hK0,RG,RG,R2 (by omega)]
  by_cases hk0:0<k
  ·have hlen:(l.take k).length=k:=by rw[RV];omega
   have z2:aA (l.take k)=(l.getD (k-1) default).zxid:=by rw[d5 (by omega),hlen,RG,Tc,RJ (by omega),←RG]
   have:=iZ h (i:=k-1) (j:=K.length-1) (by omega) (by omega);omega
  ·have hk':k=0:=by omega
   subst hk';rw[Tf,gS,z1] at hz
   have:=hp _ (aZ l (K.length-1) (by omega));omega
theorem Old.gone{ld es:Int}{L:List ATxn}{n:Nat}{z:Int}(h:Old ld es L n z)(L2:List ATxn):Old (-1) es L2 n z:=⟨h.1,h.2.1,h.2.2.1,fun h=>absurd h (by decide)⟩
theorem Old.up{ld es:Int}{L:List ATxn}{n m:Nat}{z:Int}(h:Old ld es L n z)(hm:n≤m):Old ld es L m z:=⟨h.1,h.2.1,by have:=h.2.2.1;omega,h.2.2.2⟩
theorem Old.lead{ld es:Int}{L:List ATxn}{n:Nat}{z:Int}(h:Old ld es L n z){b ep:Int}(he:es<ep)(L2:List ATxn):Old b ep L2 n z:=⟨h.1,by have:=h.2.1;omega,h.2.2.1,fun _=>.inl (by have:=h.2.1;omega)⟩
theorem Old.more{ld es:Int}{L:List ATxn}{n:Nat}{z:Int}(h:Old ld es L n z){L2:List ATxn}(hl:aA L≤aA L2):Old ld es L2 n z:=⟨h.1,h.2.1,h.2.2.1,fun h0=>(h.2.2.2 h0).imp id fun h1=>by omega⟩
theorem Pr.mono{g:Nat→Gh}{ld es:Int}{K:List ATxn}{n m:Nat}(h:Pr g ld es K n)(hm:n≤m):Pr g ld es K m:=
 { h with
   old:=fun j hj x hx=>(h.old j hj x hx).up hm
   esn:=by have:=h.esn;omega
   E0:=fun j hj=>⟨(h.E0 j hj).1,by have:=(h.E0 j hj).2;omega⟩ }
theorem Pr.resign{g:Nat→Gh}{ld es:Int}{K:List ATxn}{n:Nat}(h:Pr g ld es K n):Pr g (-1) es K n:=
 { h with
   old:=fun j hj x hx=>(h.old j hj x hx).gone _
   k3:=fun h=>absurd h (by decide)
   ld0:=fun h=>absurd h (by decide) }
theorem Pr.cut{g:Nat→Gh}{ld es:Int}{K:List ATxn}{n:Nat}(h:Pr g ld es K n){j:Nat}(hj:j<3)(hd:0≤ld→ld.toNat≠j){k:Nat}(h1:(g j).a≤k)(h2:k≤(g j).D.length):Pr (upd g j ⟨(g j).D.take k,k,(g j).E⟩) ld es K n:=by
 have hm:∀ i,i<3→∀ x,x∈(upd g j ⟨(g j).D.take k,k,(g j).E⟩ i).D→x∈(g i).D:=fun i hi x hx=>by
  by_cases e:i=j
  ·subst e;rw[dI] at hx;exact St hx
  ·rwa[ck _ _ e] at hx
 have hE:∀ i,(upd g j ⟨(g j).D.take k,k,(g j).E⟩ i).E=(g i).E:=fun i=>by
  by_cases e:i=j
  ·subst e;rw[dI]
  ·rw[ck _ _ e]
 have hO:∀{z:Int},Old ld es (g ld.toNat).D n z→Old ld es (upd g j ⟨(g j).D.take k,k,(g j).E⟩ ld.toNat).D n z:=fun{z} hz=>by
  by_cases e:0≤ld
  ·rw[ck _ _ (hd e)];exact hz
  ·exact⟨hz.1,hz.2.1,hz.2.2.1,fun h0=>absurd h0 e⟩
 refine⟨fun i hi=>?_,fun i hi=>?_,fun i hi x hx=>h.pos i hi x (hm i hi x hx),fun i hi x hx=>hO (h.old i hi x (hm i hi x hx)),h.es0,h.esn,fun i hi=>by rw[hE];exact h.E0 i hi,h.q.mono fun i _ hi=>by rw[hE];exact hi,
  fun i i2 hi hi2 x y hx hy=>h.one i i2 hi hi2 x y (hm i hi x hx) (hm i2 hi2 y hy),h.k1.mono fun i hi hk=>?_,fun i hi hz=>?_,fun h0=>by rw[ck _ _ (hd h0)];exact h.k3 h0,fun h0=>by rw[hE];exact h.ld0 h0⟩
 ·by_cases e:i=j
  ·subst e;rw[dI];exact oz (h.log i hi) k
  ·rw[ck _ _ e];exact h.log i hi
 ·by_cases e:i=j
  ·subst e;rw[dI];simp only;rw[RV];omega
  ·rw[ck _ _ e];exact h.al i hi
 ·by_cases e:i=j
  ·subst e;rw[dI]
   refine⟨?_,by simp only;omega⟩;have e2:=UJ.1 hk.1;refine UJ.2 ?_;simp only;rw[TU,SC (by omega)];exact e2
  ·rw[ck _ _ e];exact hk
 ·by_cases e:i=j
  ·subst e;rw[dI] at hz ⊢
   exact KY (h.log i hi) (h.pos i hi) (h.k2 i hi (Ud hz (Dx (h.log i hi) (h.pos i hi) k))) hz
  ·rw[ck _ _ e] at hz ⊢;exact h.k2 i hi hz
theorem Pr.follow{g:Nat→Gh}{es:Int}{K:List ATxn}{n:Nat}(h:Pr g (-1) es K n){j b:Nat}(hj:j<3)(hb:b<3)(hK:K <+: (g b).D){ep:Int}(h1:es<ep)(h2:ep≤n):Pr (upd g j ⟨(g b).D,(g b).D.length,ep⟩) (-1) es K n:=by
 have hm:∀ i,i<3→∃ i2,i2<3∧(upd g j ⟨(g b).D,(g b).D.length,ep⟩ i).D=(g i2).D:=fun i hi=>by
  by_cases e:i=j
  ·subst e;rw[dI];exact⟨b,hb,rfl⟩
  ·rw[ck _ _ e];exact⟨i,hi,rfl⟩
 refine⟨fun i hi=>?_,fun i hi=>?_,fun i hi x hx=>?_,fun i hi x hx=>?_,h.es0,h.esn,fun i hi=>?_,h.q.mono fun i _ hi=>?_,fun i i2 hi hi2 x y hx hy=>?_,h.k1.mono fun i hi hk=>?_,fun i hi hz=>?_,fun h0=>absurd h0 (by decide),fun h0=>absurd h0 (by decide)⟩
 ·obtain⟨m,q1,q2⟩:=hm i hi;rw[q2];exact h.log m q1
 ·by_cases e:i=j
  ·subst e;rw[dI];exact RP _
  ·rw[ck _ _ e];exact h.al i hi
 ·obtain⟨m,q1,q2⟩:=hm i hi;rw[q2] at hx;exact h.pos m q1 x hx
 ·obtain⟨m,q1,q2⟩:=hm i hi;rw[q2] at hx;exact(h.old m q1 x hx).gone _
 ·by_cases e:i=j
  ·subst e;rw[dI];have:=h.es0;exact⟨by simp only;omega,h2⟩
  ·rw[ck _ _ e];exact h.E0 i hi
 ·by_cases e:i=j
  ·subst e;rw[dI];exact UR h1
  ·rw[ck _ _ e];exact hi
 ·obtain⟨m,q1,q2⟩:=hm i hi;obtain⟨m2,q3,q4⟩:=hm i2 hi2
  rw[q2] at hx;rw[q4] at hy;exact h.one m m2 q1 q3 x y hx hy
 ·by_cases e:i=j
  ·subst e;rw[dI];exact⟨hK,hK.length_le⟩
  ·rw[ck _ _ e];exact hk
 ·by_cases e:i=j
  ·subst e;rw[dI];exact hK
  ·rw[ck _ _ e] at hz ⊢;exact h.k2 i hi hz
theorem Pr.lead{g:Nat→Gh}{es:Int}{K:List ATxn}{n:Nat}(h:Pr g (-1) es K n){ep:Int}(h1:es<ep)(h2:ep≤n)(hq:Two fun j=>ep≤(g j).E){b:Nat}(hb:b<3)(hE:(g b).E=ep)(hK:K <+: (g b).D):Pr g b ep K n:=
 { h with
   old:=fun j hj x hx=>(h.old j hj x hx).lead h1 _
   es0:=by have:=h.es0;omega
   esn:=h2
   q:=hq
   k3:=fun _=>hK
   ld0:=fun _=>⟨by omega,hE⟩ }
theorem Pr.best{g:Nat→Gh}{ld es:Int}{K:List ATxn}{n:Nat}(h:Pr g ld es K n){U:Nat→Prop}(hU:Two U){b:Nat}(hb:b<3)(hm:∀ j,j<3→U j→aA (g j).D≤aA (g b).D):K <+: (g b).D:=by
 obtain⟨i,h1,h2,h3⟩:=hU.meet h.k1;refine h.k2 b hb (Ud ?_ (hm i h1 h2))
 by_cases e:K=[]
 ·subst e;exact fg (h.pos i h1)
 ·obtain⟨x,q1,q2⟩:=gl e
  rw[←q2];exact pG (h.log i h1) (h3.1.subset q1)
theorem Pr.epoch{g:Nat→Gh}{ld es:Int}{K:List ATxn}{n:Nat}(h:Pr g ld es K n){U:Nat→Prop}(hU:Two U){ep:Int}(hm:∀ j,j<3→U j→(g j).E<ep):es<ep:=by
 obtain⟨i,h1,h2,h3⟩:=hU.meet h.q
 have:=hm i h1 h2;omega
theorem Pr.new{g:Nat→Gh}{ld es:Int}{K:List ATxn}{n:Nat}(h:Pr g ld es K n)(h0:0≤ld){z:Int}(h1:z/2147483648=es)(h2:aA (g ld.toNat).D<z){j:Nat}(hj:j<3):(∀ y,y∈(g j).D→y.zxid<z)∧aA (g j).D<z:=by
 have ha:∀ y,y∈(g j).D→y.zxid<z:=fun y hy=>by rcases(h.old j hj y hy).2.2.2 h0 with h3|h3<;>omega
 refine⟨ha,?_⟩
 by_cases e:(g j).D=[]
 ·have:=fg (h.pos ld.toNat (by have:=h.ld0 h0;omega))
  rw[e,gS];omega
 ·obtain⟨x,q1,q2⟩:=gl e
  rw[←q2];exact ha x q1
theorem Pr.took{g g':Nat→Gh}{ld es:Int}{K:List ATxn}{n:Nat}(h:Pr g ld es K n)(h0:0≤ld){x:ATxn}(hx:aT x=0)(h1:x.zxid/2147483648=es)(h2:aA (g ld.toNat).D<x.zxid)(h3:x.zxid%2147483648≤n)
  (hT:∀ j,j<3→((g j).D=(g ld.toNat).D∧(g' j).D=(g ld.toNat).D++[x]∧(g j).a≤(g' j).a∧(g' j).a≤(g' j).D.length)∨((g' j).D=(g j).D∧(g' j).a=(g j).a)) (hE:∀ j,j<3→(g' j).E=(g j).E):Pr g' (-1) es K n:=by
 have hld:=h.ld0 h0;have hl3:ld.toNat<3:=by omega
 have hz0:=fg (h.pos ld.toNat hl3)
 have hm:∀ j,j<3→∀ y,y∈(g' j).D→y=x∨y∈(g j).D:=fun j hj y hy=>by
  rcases hT j hj with⟨a1,a2,_⟩|⟨a1,_⟩
  ·rw[a2] at hy;rw[a1]
   rcases Sp.1 hy with q|q
   ·exact .inr q
   ·exact .inl (S5.1 q)
  ·rw[a1] at hy;exact .inr hy
 refine⟨fun j hj=>?_,fun j hj=>?_,fun j hj y hy=>?_,fun j hj y hy=>?_,h.es0,h.esn,fun j hj=>by rw[hE j hj];exact h.E0 j hj,h.q.mono fun j hj hi=>by rw[hE j hj];exact hi,fun i j hi hj y v hy hv e=>?_,h.k1.mono fun j hj hk=>?_,fun j hj hz=>?_,fun h0=>absurd h0 (by decide),fun h0=>absurd h0 (by decide)⟩
 ·rcases hT j hj with⟨a1,a2,_⟩|⟨a1,_⟩
  ·rw[a2];exact kT (h.log _ hl3) (fun _=>h2) hx
  ·rw[a1];exact h.log j hj
 ·rcases hT j hj with⟨a1,a2,a3,a4⟩|⟨a1,a2⟩
  ·exact a4
  ·rw[a1,a2];exact h.al j hj
 ·rcases hm j hj y hy with rfl|q
  ·omega
  ·exact h.pos j hj y q
 ·rcases hm j hj y hy with rfl|q
  ·exact⟨by omega,by omega,h3,fun h=>absurd h (by decide)⟩
  ·exact(h.old j hj y q).gone _
 ·rcases hm i hi y hy with rfl|q<;>rcases hm j hj v hv with rfl|q2
  ·rfl
  ·have:=(h.new h0 h1 h2 hj).1 v q2;omega
  ·have:=(h.new h0 h1 h2 hi).1 y q;omega
  ·exact h.one i j hi hj y v q q2 e
 ·rcases hT j hj with⟨a1,a2,a3,a4⟩|⟨a1,a2⟩
  ·rw[a2];rw[a1] at hk;exact⟨hk.1.trans (List.prefix_append _ _),by omega⟩
  ·rw[a1,a2];exact hk
 ·rcases hT j hj with⟨a1,a2,a3,a4⟩|⟨a1,a2⟩
  ·rw[a2];exact(h.k3 h0).trans (List.prefix_append _ _)
  ·rw[a1] at hz ⊢;exact h.k2 j hj hz
theorem Pr.ackd{g g':Nat→Gh}{ld es:Int}{K:List ATxn}{n:Nat}(h:Pr g ld es K n)(h0:0≤ld){x:ATxn}(hx:aT x=0)(h1:x.zxid/2147483648=es)(h2:aA (g ld.toNat).D<x.zxid)(h3:x.zxid%2147483648≤n)
  (hT:∀ j,j<3→((g j).D=(g ld.toNat).D∧(g' j).D=(g ld.toNat).D++[x]∧(g j).a≤(g' j).a∧(g' j).a≤(g' j).D.length)∨((g' j).D=(g j).D∧(g' j).a=(g j).a)) (hE:∀ j,j<3→(g' j).E=(g j).E)
  (hl:(g' ld.toNat).D=(g ld.toNat).D++[x]) (hs:Two fun j=>(g' j).D=(g ld.toNat).D++[x]∧(g' j).a=(g' j).D.length):Pr g' ld es ((g ld.toNat).D++[x]) n:=by
 have hld:=h.ld0 h0;have hl3:ld.toNat<3:=by omega
 have hz0:=fg (h.pos ld.toNat hl3);have hq:=h.took h0 hx h1 h2 h3 hT hE;have hj:∀ j,j<3→(g' j).D=(g ld.toNat).D++[x]∨(g' j).D=(g j).D:=fun j hj=>(hT j hj).imp (fun a=>a.2.1) (fun a=>a.1)
 refine{ hq with old:=fun j h4 y hy=>?_,k1:=hs.mono fun j _ hi=>⟨by rw[hi.1];exact Uk _,by rw[hi.2,hi.1];exact RP _⟩,k2:=fun j h4 hz=>?_,k3:=fun _=>by rw[hl];exact Uk _,ld0:=fun _=>⟨hld.1,by rw[hE _ hl3];exact hld.2⟩ }
 ·have ho:=hq.old j h4 y hy
  refine⟨ho.1,ho.2.1,ho.2.2.1,fun _=>.inr ?_⟩;rw[hl,fO];rcases hj j h4 with e|e
  ·rw[e] at hy
   have:=pG (kT (h.log _ hl3) (fun _=>h2) hx) hy;rwa[fO] at this
  ·rw[e] at hy
   exact UR ((h.new h0 h1 h2 h4).1 y hy)
 ·rcases hj j h4 with e|e
  ·rw[e];exact Uk _
  ·rw[e,fO] at hz
   have:=(h.new h0 h1 h2 h4).2;omega
theorem Pr.start:Pr (fun _=>⟨[],0,0⟩) (-1) 0 [] 0:=by refine⟨fun _ _=>nq,fun _ _=>RP _,fun _ _ _ h=>(by cases h),fun _ _ _ h=>(by cases h),SP _,SP _,fun _ _=>⟨SP _,SP _⟩,⟨0,1,by decide,by decide,by decide,SP _,SP _⟩,fun _ _ _ _ _ _ h=>(by cases h),⟨0,1,by decide,by decide,by decide,⟨Uk _,RP _⟩,⟨Uk _,RP _⟩⟩,fun _ _ _=>Uk _,fun _=>Uk _,fun h=>absurd h (by decide)⟩
theorem yH{p:X3}{es:Int}{n:Nat}(hn:n<1000000)(h0:0≤es)(h1:es≤n)(hE:p.epoch=es)(hz0:0≤aA p.log)(hz1:aA p.log/2147483648≤es)(hz2:aA p.log%2147483648≤n) :
  (cD p).2=0∧(cD p).1/2147483648=es∧(cD p).1%2147483648≤n+1∧aA p.log<(cD p).1:=by
 have hg:bd (aA p.log):=by unfold bd;omega
 have he:epZ (aA p.log)=aA p.log/2147483648:=by unfold epZ;rw[RJ hg]
 have hmk:mkZ es 0=(es*2147483648,0):=(mO h0 (by omega)).1;have hg2:bd (es*2147483648):=(mO h0 (by omega)).2.1;unfold cD;rw[he,hE,hmk]
 by_cases hlt:aA p.log/2147483648<es
 ·rw[RJ hlt,RI (fun h=>h rfl)]
  unfold iX;rw[RJ hg2,RI (by simp only;omega)];exact⟨rfl,by simp only;omega,by simp only;omega,by simp only;omega⟩
 ·rw[RI hlt]
  unfold iX;rw[RJ hg,RI (by omega)];exact⟨rfl,by simp only;omega,by simp only;omega,by simp only;omega⟩
theorem Fv:recoverD []=([],⟨mkD none [] []⟩,0):=by decide +kernel
theorem qP:∀{l:List ATxn} {t v:XW},aS t=true→cz t l=some v→aS v=true
 |[],t,v,hg,h=>by injection h with h;subst h;exact hg
 | x::r,t,v,hg,h=>by
   rw[cz] at h;split at h
   ·rename_i he;exact qP (tU he) h
   ·cases h
theorem xc:∀{l:List ATxn} {t v:XW},cz t l=some v→v.zxid=if l=[] then t.zxid else aA l
 |[],t,v,h=>by injection h with h;subst h;rfl
 | x :: r,t,v,h=>by
   rw[cz] at h;split at h
   ·rename_i he
    have h2:=xc h
    have h3:(ah t x).1.zxid=x.zxid:=by
     have h0:bw t x=0:=by apply Sh;intro hw;rw[mJ hw] at he;exact hw he
     have hb:(cG t x).1.nodes.any dN=false:=by apply Sh;intro hb;rw[cU h0 (by simpa using hb)] at he;cases he
     rw[ez h0 hb];unfold cG
     repeat' split
     all_goals rfl
    rw[RI (List.cons_ne_nil x r),h2]
    by_cases e:r=[]
    ·subst e;rw[RJ rfl,h3];rfl
    ·rw[RI e,d5 (TY.2 e),d5 (by simp)]
     have:=TY.2 e;rw[RQ,show r.length+1-1=(r.length-1)+1 from by omega,List.getD_cons_succ]
   ·cases h
def NE(e:Option (List UInt8))(E:Int):Prop:=(e=none∧E=0)∨(e=some (epB E)∧0≤E∧E≤2147483647)
theorem NE.read{e:Option (List UInt8)}{E:Int}(h:NE e E){s t:List UInt8}(hl:s.length+t.length≤1048576):gC (mkD e s t)=E:=by
 rcases h with⟨rfl,rfl⟩|⟨rfl,h0,h1⟩
 ·exact D3 hl
 ·exact K7 h0 h1 hl
def SvUp(s:XV)(g:Gh):Prop:=∃ e,NE e g.E∧X9 s e g.a∧s.peer.log=g.D∧s.peer.epoch=g.E
def Ph(s:XV)(g:Gh):Prop:=∃ e,NE e g.E∧Yc s e g.D∧g.a=g.D.length
def jn(s:XV)(g:Gh)(j:Nat):Prop:=s.peer.id=j∧(s.up=true→SvUp s g)∧(s.up=false→Ph s g)
theorem X9.posZ{s:XV}{e:Option (List UInt8)}{a:Nat}(h:X9 s e a):0≤s.tree.zxid∧s.tree.zxid≤aA s.peer.log∧(s.tree.zxid=0∨∃ x,x∈s.peer.log∧x.zxid=s.tree.zxid):=by
 have hz:=xc h.tree;have h0:∀ x,x∈s.peer.log→0≤x.zxid:=fun x hx=>(gg (h.log.2 x hx)).1.1
 have hl0:0≤aA s.peer.log:=by
  by_cases e:s.peer.log=[]
  ·rw[e];exact SP _
  ·obtain⟨x,q1,q2⟩:=gl e
   have:=h0 x q1;omega
 by_cases e:s.peer.log.take s.peer.done.toNat=[]
 ·rw[RJ e] at hz
  have:t00.zxid=0:=by decide
  rw[hz,this];exact⟨SP _,hl0,.inl rfl⟩
 ·rw[RI e] at hz
  obtain⟨x,q1,q2⟩:=gl e;have hx:=St q1;rw[hz,←q2];exact⟨h0 x hx,pG h.log hx,.inr ⟨x,hx,rfl⟩⟩
theorem HK{s:XV}{g:Gh}{j:Nat}(h:jn s g j)(hu:s.up=true){keep:Int}(hc:(bR s keep).2=0):∃ k,g.a≤k∧k≤g.D.length∧jn (bR s keep).1 ⟨g.D.take k,k,g.E⟩ j∧(bR s keep).1.up=false:=by
 obtain⟨hid,h1,_⟩:=h;obtain⟨e,he,hk,hl,_⟩:=h1 hu
 have h0:0≤keep:=by
  apply Sh;intro hn;have hcd:eI s.disk.files keep=(default,3):=by unfold eI;rw[RJ (.inr (by omega))]
  unfold bR at hc;rw[hcd,RI (by decide)] at hc;cases hc
 obtain⟨k,k1,k2,k3,k4,k5⟩:=hk.crash h0;rw[hl] at k2 k4;refine⟨k,k1,k2,⟨by rw[k5,hid],fun hf=>(by rw[k4.up] at hf;cases hf),fun _=>⟨e,he,k4,by show k=(g.D.take k).length;rw[RV];omega⟩⟩,k4.up⟩
theorem Mj{s:XV}{g:Gh}{j:Nat}(h:jn s g j)(hu:s.up=false)(hj:j<3):(cK j s.disk.files).2=0∧jn (cK j s.disk.files).1 g j∧(cK j s.disk.files).1.up=true∧(cK j s.disk.files).1.peer.done=0∧(cK j s.disk.files).1.watches=[]:=by
 obtain⟨hid,_,h1⟩:=h;obtain⟨e,he,hk,ha⟩:=h1 hu;obtain⟨c,c1,c2,c3⟩:=hk.disk;have hr:=hk.recovers;have hep:gC s.disk.files=g.E:=by rw[c1];exact he.read (by simpa using c2)
 have hb:cK j s.disk.files=(⟨true,⟨mkD e (encs g.D) []⟩,⟨j,g.E,g.D,0⟩,t00,[]⟩,0):=by unfold cK;rw[RI (by omega),hr.1,RI (fun h=>h rfl),hep]
 rw[hb];refine⟨rfl,⟨rfl,fun _=>⟨e,he,?_,rfl,rfl⟩,fun hf=>(by cases hf)⟩,rfl,rfl,rfl⟩;rw[ha];exact hk.boot _ _
theorem Mo{s:XV}{g:Gh}{j:Nat}(h:jn s g j)(hu:s.up=true){x:ATxn}(hx:aT x=0)(hz:aA g.D<x.zxid)(hl:(encs g.D).length+(cE x).1.length≤1048576)(hp:∃ v,cz t00 (g.D++[x])=some v)(safe:Bool) :
  (bg s x safe).2=0∧jn (bg s x safe).1 ⟨g.D++[x],if safe then g.D.length+1 else g.a,g.E⟩ j∧(bg s x safe).1.up=true∧(bg s x safe).1.peer.done=s.peer.done∧(bg s x safe).1.watches=s.watches:=by
 obtain⟨hid,h1,_⟩:=h;obtain⟨e,he,hk,hlg,hep⟩:=h1 hu;rw[←hlg] at hz hl hp;obtain⟨d,t1,t2⟩:=hk.take hx hz hl hp safe;rw[t1];refine⟨rfl,⟨hid,fun _=>⟨e,he,?_,?_,hep⟩,fun hf=>?_⟩,hu,rfl,rfl⟩
 ·rw[hlg] at t2;rw[hlg];exact t2
 ·simp only;rw[hlg]
 ·change s.up=false at hf;rw[hu] at hf;cases hf
theorem xK{s:XV}{g:Gh}{j:Nat}(h:jn s g j)(hu:s.up=true){n:Int}(hn1:s.peer.done≤n)(hn2:n≤g.D.length) :
  (au s n).2.2=0∧jn (au s n).1 g j∧(au s n).1.up=true∧(au s n).1.peer.done=n:=by
 obtain⟨hid,h1,_⟩:=h;obtain⟨e,he,hk,hlg,hep⟩:=h1 hu;rw[←hlg] at hn2;obtain⟨t,w,ns,t1,t2⟩:=hk.commit hn1 hn2;rw[t1];refine⟨rfl,⟨hid,fun _=>⟨e,he,t2,hlg,hep⟩,fun hf=>?_⟩,hu,rfl⟩
 change s.up=false at hf;rw[hu] at hf;cases hf
theorem Hu{s:XV}{g:Gh}{j:Nat}(h:jn s g j)(hu:s.up=true){l:List ATxn}(ho:logOk l)(hl:(encs l).length≤1048576)(hp:∃ v,cz t00 l=some v)(hone:∀ x y,x∈l→y∈g.D→x.zxid=y.zxid→x=y){ep:Int}(h0:0≤ep)(h1:ep≤2147483647) :
  ((aG s l ep).2=0→jn (aG s l ep).1 ⟨l,l.length,ep⟩ j∧(aG s l ep).1.up=true∧(aG s l ep).1.peer.done=s.peer.done∧s.peer.done≤l.length∧(aG s l ep).1.watches=s.watches)∧(s.peer.done=0→(aG s l ep).2=0):=by
 obtain⟨hid,hh,_⟩:=h;obtain⟨e,he,hk,hlg,hep⟩:=hh hu;have hle:=jq l s.peer.log
 by_cases hd:s.peer.done≤bp l s.peer.log
 ·have hm:l.take (bp l s.peer.log)=s.peer.log.take (bp l s.peer.log):=by
   apply UH
   ·rw[RV,RV];omega
   ·intro i h2 h3
    rw[RV] at h2 h3;rw[UY,UY];have hi:=oB l s.peer.log i (by omega);rw[RG,RH (by omega),RG,RH (by omega)] at hi;exact hone _ _ (SD _) (by rw[←hlg];exact SD _) hi
  obtain⟨d,t1,t2⟩:=hk.follow ho hl hp h0 h1 hm hd;rw[t1];refine⟨fun _=>⟨⟨hid,fun _=>⟨some (epB ep),.inr ⟨rfl,h0,h1⟩,t2,rfl,rfl⟩,fun hf=>?_⟩,hu,rfl,by omega,rfl⟩,fun _=>rfl⟩
  change s.up=false at hf;rw[hu] at hf;cases hf
 ·have hf:(aG s l ep).2=13:=by unfold aG;rw[RJ (by omega)]
  rw[hf];exact⟨fun h=>(by cases h),fun h=>(by omega)⟩
theorem A4{l:List ATxn}(h:∀ t,t∈l→aT t=0):(encs l).length≤l.length*487:=by
 induction l with
 |nil=>exact RX _
 | cons x l ih=>
   have h1:=ih fun t ht=>h t (Si _ ht)
   have h2:=nE (h x (SF ..));have h3:=gg (h x (SF ..));rw[eH,RL,RQ];omega
structure X6 (w:AWorld) (g:Nat→Gh) (es:Int) (K:List ATxn) (n:Nat):Prop where
 sl:w.sv.length=3
 fl:w.fl.length=3
 cl:w.cl.length=16
 pr:Pr g w.leader es K n
 sv:∀ j,j<3→jn (w.s j) (g j) j
 small:∀ j,j<3→(g j).D.length≤n
 lead:0≤w.leader→w.f w.leader.toNat=true∧(w.s w.leader.toNat).peer.done=(g w.leader.toNat).D.length
 fol:0≤w.leader→∀ j,j<3→w.f j=true→(w.s j).up=true∧(g j).D=(g w.leader.toNat).D
 ack:w.done.Sublist K
 cli:∀ i,i<16→(w.c i).session=(i:Int)+1∧Old w.leader es (g w.leader.toNat).D n (w.c i).seen
theorem rc{α:Type}(l:List α)(i j:Nat)(x d:α)(h:i<l.length):(l.set i x).getD j d=if j=i then x else l.getD j d:=by
 rw[RG,RG,To]
 by_cases e:i=j
 ·subst e;rw[RJ rfl,RJ rfl,RJ h];rfl
 ·rw[RI e,RI (fun h=>e h.symm)]
theorem fB{w:AWorld}{i:Nat}(h:i<w.sv.length)(s:XV)(j:Nat):(w.setS i s).s j=if j=i then s else w.s j:=rc _ _ _ _ _ h
theorem rl{w:AWorld}{i:Nat}(h:i<w.fl.length)(b:Bool)(j:Nat):(w.setF i b).f j=if j=i then b else w.f j:=rc _ _ _ _ _ h
theorem IY{w:AWorld}{i:Nat}(h:i<w.cl.length)(c:X0)(j:Nat):(w.setC i c).c j=if j=i then c else w.c j:=rc _ _ _ _ _ h
theorem B1(w:AWorld)(j:Nat):w.resign.f j=false:=by unfold AWorld.resign AWorld.f;rcases j with _|_|_|j<;>rfl
theorem X6.mono{w:AWorld}{g:Nat→Gh}{es:Int}{K:List ATxn}{n m:Nat}(h:X6 w g es K n)(hm:n≤m):X6 w g es K m:=
 { h with pr:=h.pr.mono hm,small:=fun j hj=>R8 (h.small j hj) hm,cli:=fun i hi=>⟨(h.cli i hi).1,(h.cli i hi).2.up hm⟩ }
theorem X6.deeds{w:AWorld}{g:Nat→Gh}{es:Int}{K:List ATxn}{n:Nat}(h:X6 w g es K n)(d:Int):X6 { w with deeds:=d } g es K n:=
 ⟨h.sl,h.fl,h.cl,h.pr,h.sv,h.small,h.lead,h.fol,h.ack,h.cli⟩
theorem X6.resign{w:AWorld}{g:Nat→Gh}{es:Int}{K:List ATxn}{n:Nat}(h:X6 w g es K n):X6 w.resign g es K n:=
 ⟨h.sl,rfl,h.cl,h.pr.resign,h.sv,h.small,fun h0=>absurd h0 (show ¬ (0:Int)≤-1 by decide),fun h0=>absurd h0 (show ¬ (0:Int)≤-1 by decide),h.ack,fun i hi=>⟨(h.cli i hi).1,(h.cli i hi).2.gone _⟩⟩
theorem X6.crash{w:AWorld}{g:Nat→Gh}{es:Int}{K:List ATxn}{n:Nat}(h:X6 w g es K n){i:Nat}(hi:i<3)(keep:Int):∃ g',X6 (iv w i keep).1 g' es K n:=by
 unfold iv
 by_cases hu:(w.s i).up=false
 ·rw[RJ hu];exact⟨g,h⟩
 rw[RI hu]
 by_cases hc:(bR (w.s i) keep).2=0
 case neg=>rw[RJ hc];exact⟨g,h⟩
 rw[RI (fun h=>h hc)];obtain⟨k,k1,k2,k3,k4⟩:=HK (h.sv i hi) (by simpa using hu) hc;have hsl:=h.sl;have hfl:=h.fl;have hsm:=h.small
 have hsv:∀ j,j<3→jn ((w.setS i (bR (w.s i) keep).1).s j) (upd g i ⟨(g i).D.take k,k,(g i).E⟩ j) j:=fun j hj=>by
  rw[fB (by omega)]
  by_cases e:j=i
  ·subst e;rw[RJ rfl,dI];exact k3
  ·rw[RI e,ck _ _ e];exact h.sv j hj
 have hsmall:∀ j,j<3→(upd g i ⟨(g i).D.take k,k,(g i).E⟩ j).D.length≤n:=fun j hj=>by
  by_cases e:j=i
  ·subst e;rw[dI];simp only;rw[RV];have:=hsm j hj;omega
  ·rw[ck _ _ e];exact hsm j hj
 refine⟨upd g i ⟨(g i).D.take k,k,(g i).E⟩,?_⟩
 by_cases hl:w.leader=i
 ·rw[RJ hl]
  refine⟨by simp only[AWorld.resign,AWorld.setF,AWorld.setS,R3];exact hsl,rfl,h.cl,h.pr.resign.cut hi (fun h0=>absurd h0 (by decide)) k1 k2,hsv,hsmall,fun h0=>absurd h0 (show ¬ (0:Int)≤-1 by decide),fun h0=>absurd h0 (show ¬ (0:Int)≤-1 by decide),h.ack,fun m hm=>⟨(h.cli m hm).1,(h.cli m hm).2.gone _⟩⟩
 ·rw[RI hl]
  have hne:0≤w.leader→w.leader.toNat≠i:=fun h0 e=>hl (by omega)
  have hf:∀ j,((w.setS i (bR (w.s i) keep).1).setF i false).f j=if j=i then false else w.f j:=fun j=>rl (w:=w.setS i (bR (w.s i) keep).1) (by show i<w.fl.length;omega) false j
  have hs:∀ j,((w.setS i (bR (w.s i) keep).1).setF i false).s j=if j=i then(bR (w.s i) keep).1 else w.s j:=fun j=>fB (by omega) _ j
  refine⟨by simp only[AWorld.setF,AWorld.setS,R3];exact hsl,by simp only[AWorld.setF,AWorld.setS,R3];exact hfl,h.cl,h.pr.cut hi hne k1 k2,hsv,hsmall,fun h0=>?_,fun h0 j hj hfj=>?_,h.ack,fun m hm=>⟨(h.cli m hm).1,?_⟩⟩
  ·change 0≤w.leader at h0
   show((w.setS i (bR (w.s i) keep).1).setF i false).f w.leader.toNat=true∧(((w.setS i (bR (w.s i) keep).1).setF i false).s w.leader.toNat).peer.done=_;rw[hf,hs,RI (hne h0),RI (hne h0)];show _∧_=(((upd g i ⟨(g i).D.take k,k,(g i).E⟩ w.leader.toNat).D.length:Nat):Int);rw[ck _ _ (hne h0)];exact h.lead h0
  ·rw[hf] at hfj
   by_cases e:j=i
   ·rw[RJ e] at hfj;cases hfj
   rw[RI e] at hfj
   change 0≤w.leader at h0
   have:=h.fol h0 j hj hfj;show(((w.setS i (bR (w.s i) keep).1).setF i false).s j).up=true∧_=(upd g i ⟨(g i).D.take k,k,(g i).E⟩ w.leader.toNat).D;rw[hs,RI e,ck _ _ e,ck _ _ (hne h0)];exact this
  ·show Old w.leader es (upd g i ⟨(g i).D.take k,k,(g i).E⟩ w.leader.toNat).D n (w.c m).seen
   have ho:=(h.cli m hm).2
   by_cases h0:0≤w.leader
   ·rw[ck _ _ (hne h0)];exact ho
   ·exact⟨ho.1,ho.2.1,ho.2.2.1,fun h=>absurd h h0⟩
theorem X6.up{w:AWorld}{g:Nat→Gh}{es:Int}{K:List ATxn}{n:Nat}(h:X6 w g es K n){i:Nat}(hi:i<3):X6 (upW w i).1 g es K n:=by
 unfold upW
 by_cases hu:(w.s i).up=true
 ·rw[RJ hu];exact h
 rw[RI hu];have hu':(w.s i).up=false:=by simpa using hu
 obtain⟨b1,b2,b3,b4,b5⟩:=Mj (h.sv i hi) hu' hi;rw[RI (fun h=>h b1)];have hsl:=h.sl;have hs:∀ j,(w.setS i (cK i (w.s i).disk.files).1).s j=if j=i then(cK i (w.s i).disk.files).1 else w.s j:=fun j=>fB (by omega) _ j
 refine⟨by simp only[AWorld.setS,R3];exact hsl,h.fl,h.cl,h.pr,fun j hj=>?_,h.small,fun h0=>?_,fun h0 j hj hf=>?_,h.ack,h.cli⟩
 ·rw[hs]
  by_cases e:j=i
  ·subst e;rw[RJ rfl];exact b2
  ·rw[RI e];exact h.sv j hj
 ·change 0≤w.leader at h0
  have hl:=h.lead h0;have hl2:=h.fol h0 w.leader.toNat (by have:=(h.pr.ld0 h0).1;omega) hl.1;have hne:w.leader.toNat≠i:=fun e=>by rw[e,hu'] at hl2;cases hl2.1
  show w.f w.leader.toNat=true∧((w.setS i (cK i (w.s i).disk.files).1).s w.leader.toNat).peer.done=_;rw[hs,RI hne];exact hl
 ·change 0≤w.leader at h0
  have hj2:=h.fol h0 j hj hf;have hne:j≠i:=fun e=>by rw[e,hu'] at hj2;cases hj2.1
  show((w.setS i (cK i (w.s i).disk.files).1).s j).up=true∧_;rw[hs,RI hne];exact hj2
theorem jn.watch{s:XV}{g:Gh}{j:Nat}(h:jn s g j)(hu:s.up=true)(l:List AWatch):jn { s with watches:=l } g j:=by
 obtain⟨hid,h1,_⟩:=h;obtain⟨e,he,hk,hlg,hep⟩:=h1 hu;refine⟨hid,fun _=>⟨e,he,⟨hk.up,hk.disk,hk.le,hk.log,hk.small,hk.elen,hk.d0,hk.dl,hk.tree,hk.play⟩,hlg,hep⟩,fun hf=>?_⟩
 change s.up=false at hf;rw[hu] at hf;cases hf
theorem Pr.zero{g:Nat→Gh}{ld es:Int}{K:List ATxn}{n:Nat}(h:Pr g ld es K n):Old ld es (g ld.toNat).D n 0:=
 ⟨SP _,h.es0,Int.natCast_nonneg _,fun h0=>.inr (fg (h.pos ld.toNat (by have:=h.ld0 h0;omega)))⟩
theorem X6.treeOld{w:AWorld}{g:Nat→Gh}{es:Int}{K:List ATxn}{n:Nat}(h:X6 w g es K n){i:Nat}(hi:i<3)(hu:(w.s i).up=true):Old w.leader es (g w.leader.toNat).D n (w.s i).tree.zxid:=by
 obtain⟨e,he,hk,hlg,hep⟩:=(h.sv i hi).2.1 hu;rcases hk.posZ.2.2 with h0|⟨x,hx,hz⟩
 ·rw[h0];exact h.pr.zero
 ·rw[←hz];exact h.pr.old i hi x (by rw[←hlg];exact hx)
theorem X6.setC{w:AWorld}{g:Nat→Gh}{es:Int}{K:List ATxn}{n:Nat}(h:X6 w g es K n){k:Nat}(hk:k<16){c:X0}(hs:c.session=(k:Int)+1)(ho:Old w.leader es (g w.leader.toNat).D n c.seen):X6 (w.setC k c) g es K n:=by
 have hcl:=h.cl;refine⟨h.sl,h.fl,by simp only[AWorld.setC,R3];exact hcl,h.pr,h.sv,h.small,h.lead,h.fol,h.ack,fun i hi=>?_⟩;rw[IY (by omega)]
 by_cases e:i=k
 ·subst e;rw[RJ rfl];exact⟨hs,ho⟩
 ·rw[RI e];exact h.cli i hi
theorem X6.setS{w:AWorld}{g:Nat→Gh}{es:Int}{K:List ATxn}{n:Nat}(h:X6 w g es K n){i:Nat}(hi:i<3){s:XV}(hs:jn s (g i) i)(hu:s.up=(w.s i).up)(hd:s.peer.done=(w.s i).peer.done):X6 (w.setS i s) g es K n:=by
 have hsl:=h.sl;refine⟨by simp only[AWorld.setS,R3];exact hsl,h.fl,h.cl,h.pr,fun j hj=>?_,h.small,fun h0=>?_,fun h0 j hj hf=>?_,h.ack,h.cli⟩
 ·rw[fB (by omega)]
  by_cases e:j=i
  ·subst e;rw[RJ rfl];exact hs
  ·rw[RI e];exact h.sv j hj
 ·show w.f w.leader.toNat=true∧((w.setS i s).s w.leader.toNat).peer.done=_
  rw[fB (by omega)]
  by_cases e:w.leader.toNat=i
  ·rw[RJ e,hd,←e];exact h.lead h0
  ·rw[RI e];exact h.lead h0
 ·show((w.setS i s).s j).up=true∧_
  rw[fB (by omega)]
  by_cases e:j=i
  ·rw[RJ e,hu,←e];exact h.fol h0 j hj hf
  ·rw[RI e];exact h.fol h0 j hj hf
theorem X6.read{w:AWorld}{g:Nat→Gh}{es:Int}{K:List ATxn}{n:Nat}(h:X6 w g es K n)(d:X1):X6 (ig w d).1 g es K n:=by
 unfold ig;split
 ·exact h
 rename_i hd;have hi:d.server.toNat<3:=by omega
 have hk:d.client.toNat<16:=by omega
 simp only;split
 ·exact h
 rename_i hu;have hu:(w.s d.server.toNat).up=true:=by simpa using hu
 have ho:=h.treeOld hi hu;have hc:=h.cli _ hk;split
 ·exact h
 rename_i hs
 have hse:gv (w.c d.client.toNat) (w.s d.server.toNat).tree.zxid=({ w.c d.client.toNat with seen:=(w.s d.server.toNat).tree.zxid },0):=by
  unfold gv at hs ⊢;split
  ·rename_i hh;rw[RJ hh] at hs;exact absurd (show(15:Int)≠0 by decide) hs
  ·rfl
 rw[hse];split
 ·split
  ·exact h
  ·refine X6.setC ?_ hk ?_ ?_
   ·exact X6.setS h hi (jn.watch (h.sv _ hi) hu (jH (w.s d.server.toNat).watches ⟨(w.c d.client.toNat).session,1,d.request.path⟩).1) rfl rfl
   ·exact hc.1
   ·exact ho
 ·exact h.setC hk hc.1 ho
theorem Fo{w:AWorld}(h:w.sv.length=3):w.sv=[w.s 0,w.s 1,w.s 2]:=by
 unfold AWorld.s;rcases e:w.sv with _|⟨a,_|⟨b,_|⟨c,_|⟨d,r⟩⟩⟩⟩
 all_goals rw[e] at h
 all_goals first|(simp at h;done)|rfl
theorem iQ{w:AWorld}(h:w.sv.length=3){p:X3}:p∈bQ w↔∃ j,j<3∧(w.s j).up=true∧p=(w.s j).peer:=by
 unfold bQ;rw[Fo h,SV];constructor
 ·rintro⟨s,hs,rfl⟩
  obtain⟨h1,h2⟩:=TE.1 hs;simp only[RW,R6,Ua] at h1;rcases h1 with rfl|rfl|rfl
  ·exact⟨0,by decide,h2,rfl⟩
  ·exact⟨1,by decide,h2,rfl⟩
  ·exact⟨2,by decide,h2,rfl⟩
 ·rintro⟨j,hj,hu,rfl⟩
  refine⟨w.s j,TE.2 ⟨?_,hu⟩,rfl⟩
  have:j=0∨j=1∨j=2:=by omega
  rcases this with rfl|rfl|rfl<;>simp
theorem Bh{w:AWorld}(h:w.sv.length=3)(hid:∀ j,j<3→(w.s j).peer.id=j):List.Pairwise (fun a b:X3=>a.id<b.id) (bQ w):=by
 unfold bQ;rw[Fo h,List.pairwise_map];refine List.Pairwise.filter _ ?_;have h0:=hid 0 (by decide);have h1:=hid 1 (by decide);have h2:=hid 2 (by decide);refine V0.2 ⟨fun b hb=>?_,V0.2 ⟨fun b hb=>?_,List.pairwise_singleton _ _⟩⟩
 ·rcases RW.1 hb with rfl|hb
  ·omega
  ·rw[S5.1 hb];omega
 ·rw[S5.1 hb];omega
theorem Fq{w:AWorld}(h:w.sv.length=3)(hid:∀ j,j<3→(w.s j).peer.id=j)(hl:2≤(bQ w).length):Two fun j=>(w.s j).up=true:=by have hp:=Bh h hid;have h0:=SD (l:=bQ w) (n:=0) (by omega);have h1:=SD (l:=bQ w) (n:=1) (by omega);have hlt:=SZ.1 hp 0 1 (by omega) (by omega) (by omega);obtain⟨i,a1,a2,a3⟩:=(iQ h).1 h0;obtain⟨j,b1,b2,b3⟩:=(iQ h).1 h1;refine⟨i,j,a1,b1,fun e=>?_,a2,b2⟩;subst e;rw[a3,b3] at hlt;omega
def Flw(w:AWorld)(g:Nat→Gh)(l:List ATxn)(ep:Int):Prop:=∀ j,j<3→w.f j=true→(w.s j).up=true∧g j=⟨l,l.length,ep⟩∧(w.s j).peer.done=l.length
theorem rg{l:List ATxn}{ep es:Int}{n b:Nat}{K:List ATxn}(ho:logOk l)(hl:(encs l).length≤1048576)(hp:∃ v,cz t00 l=some v)(h0:0≤ep)(h1:ep≤2147483647)(he:es<ep)(hn:ep≤n)(hll:l.length≤n)(hb:b<3)(hK:K <+: l) :
  ∀ (r:List Nat) (w:AWorld) (ns:List XX) (g:Nat→Gh),r.Nodup→(∀ i,i∈r→i<3)→X6 w g es K n→w.leader=-1→(g b).D=l→Flw w g l ep→
    ∃ g',X6 (bI l ep r w ns).1 g' es K n∧(bI l ep r w ns).1.leader=-1∧(g' b).D=l∧Flw (bI l ep r w ns).1 g' l ep∧(∀ j,((bI l ep r w ns).1.s j).up=(w.s j).up)∧
      ((bI l ep r w ns).2.2=0→∀ j,j∈r→(w.s j).up=true→(bI l ep r w ns).1.f j=true)∧(∀ j,w.f j=true→(bI l ep r w ns).1.f j=true)∧
      ((∀ j,j∈r→(w.s j).peer.done=0)→(bI l ep r w ns).2.2=0)∧(bI l ep r w ns).1.done=w.done∧(bI l ep r w ns).1.deeds=w.deeds
 |[],w,ns,g,_,_,hw,hld,hbl,hf=>⟨g,hw,hld,hbl,hf,fun _=>rfl,fun _ j hj=>(by cases hj),fun _ h=>h,fun _=>rfl,rfl,rfl⟩
 | i :: r,w,ns,g,hnd,hr,hw,hld,hbl,hf=>by
   have hi:i<3:=hr i (SF ..);have hr2:∀ j,j∈r→j<3:=fun j hj=>hr j (Si _ hj)
   obtain⟨hnd1,hnd2⟩:=Sj.1 hnd;rw[bI]
   by_cases hu:(w.s i).up=false
   ·rw[RJ hu]
    obtain⟨g',q1,q2,q3,q4,q5,q6,q7,q8,q9⟩:=rg ho hl hp h0 h1 he hn hll hb hK r w ns g hnd2 hr2 hw hld hbl hf;refine⟨g',q1,q2,q3,q4,q5,fun hz j hj hj2=>?_,q7,fun hd=>q8 fun j hj=>hd j (Si _ hj),q9⟩;rcases RW.1 hj with e|e
    ·subst e;rw[hu] at hj2;cases hj2
    ·exact q6 hz j e hj2
   rw[RI hu];have hu:(w.s i).up=true:=by simpa using hu
   have hone:∀ x y,x∈l→y∈(g i).D→x.zxid=y.zxid→x=y:=fun x y hx hy=>hw.pr.one b i hb hi x y (by rw[hbl];exact hx) hy
   obtain⟨s1,s2⟩:=Hu (hw.sv i hi) hu ho hl hp hone h0 h1
   by_cases hfz:(aG (w.s i) l ep).2=0
   case neg=>
    rw[RJ hfz];exact⟨g,hw,hld,hbl,hf,fun _=>rfl,fun hz=>absurd hz hfz,fun _ h=>h,fun hd=>absurd (s2 (hd i (SF ..))) hfz,rfl,rfl⟩
   rw[RI (fun h=>h hfz)];obtain⟨t1,t2,t3,t4,_⟩:=s1 hfz;generalize (aG (w.s i) l ep).1=F at t1 t2 t3 ⊢;obtain⟨c1,c2,c3,c4⟩:=xK t1 t2 (n:=(l.length:Int)) (by rw[t3];exact t4) (SP _);rw[RI (fun h=>h c1)];generalize (au F l.length).2.1=ms;generalize (au F l.length).1=s at c2 c3 c4 ⊢;have hsl:=hw.sl;have hfl:=hw.fl;have hs:∀ j,((w.setS i s).setF i true).s j=if j=i then s else w.s j:=fun j=>fB (by omega) _ j
   have hff:∀ j,((w.setS i s).setF i true).f j=if j=i then true else w.f j:=fun j=>rl (w:=w.setS i s) (by show i<w.fl.length;omega) true j
   have hgb:(upd g i ⟨l,l.length,ep⟩ b).D=l:=by
    by_cases e:b=i
    ·subst e;rw[dI]
    ·rw[ck _ _ e];exact hbl
   have hld2:((w.setS i s).setF i true).leader=-1:=hld
   have hwi:X6 ((w.setS i s).setF i true) (upd g i ⟨l,l.length,ep⟩) es K n:=by
    have hpr:=hw.pr;rw[hld] at hpr;have hpf:=hpr.follow hi hb (by rw[hbl];exact hK) he hn;rw[hbl] at hpf;refine⟨by simp only[AWorld.setF,AWorld.setS,R3];exact hsl,by simp only[AWorld.setF,AWorld.setS,R3];exact hfl,hw.cl,by rw[hld2];exact hpf,fun j hj=>?_,fun j hj=>?_,fun h=>?_,fun h=>?_,hw.ack,fun m hm=>⟨(hw.cli m hm).1,?_⟩⟩
    ·rw[hs]
     by_cases e:j=i
     ·subst e;rw[RJ rfl,dI];exact c2
     ·rw[RI e,ck _ _ e];exact hw.sv j hj
    ·by_cases e:j=i
     ·subst e;rw[dI];exact hll
     ·rw[ck _ _ e];exact hw.small j hj
    ·rw[hld2] at h;exact absurd h (by decide)
    ·rw[hld2] at h;exact absurd h (by decide)
    ·rw[hld2];exact(hw.cli m hm).2.gone _
   have hfw:Flw ((w.setS i s).setF i true) (upd g i ⟨l,l.length,ep⟩) l ep:=fun j hj hj2=>by
    rw[hs]
    by_cases e:j=i
    ·subst e;rw[RJ rfl,dI];exact⟨c3,rfl,c4⟩
    ·rw[hff,RI e] at hj2
     rw[RI e,ck _ _ e];exact hf j hj hj2
   obtain⟨g',q1,q2,q3,q4,q5,q6,q7,q8,q9⟩:=rg ho hl hp h0 h1 he hn hll hb hK r ((w.setS i s).setF i true) (ns++ms) _ hnd2 hr2 hwi hld2 hgb hfw
   have hup:∀ j,(((w.setS i s).setF i true).s j).up=(w.s j).up:=fun j=>by
    rw[hs]
    by_cases e:j=i
    ·subst e;rw[RJ rfl,c3,hu]
    ·rw[RI e]
   refine⟨g',q1,q2,q3,q4,fun j=>(q5 j).trans (hup j),fun hz j hj hj2=>?_,fun j hj=>q7 j ?_,fun hd=>q8 fun j hj=>?_,q9⟩
   ·rcases RW.1 hj with e|e
    ·exact q7 j (by rw[hff,RJ e])
    ·exact q6 hz j e (by rw[hup];exact hj2)
   ·rw[hff];split
    ·rfl
    ·exact hj
   ·rw[hs,RI (fun e=>hnd1 (by rw[←e];exact hj))]
    exact hd j (Si _ hj)
theorem uD{w:AWorld}{i:Nat}(h:i<w.cl.length)(ns:List XX):(dk w ns).c i=⟨(w.c i).session,(w.c i).seen,dZ (w.c i).session (w.c i).cache ns⟩:=by unfold dk AWorld.c;simp only;rw[RG,RS,RH h,RG,RH h];rfl
theorem X6.tell{w:AWorld}{g:Nat→Gh}{es:Int}{K:List ATxn}{n:Nat}(h:X6 w g es K n)(ns:List XX):X6 (dk w ns) g es K n:=by have hcl:=h.cl;refine⟨h.sl,h.fl,by unfold dk;simp only[RO];exact hcl,h.pr,h.sv,h.small,h.lead,h.fol,h.ack,fun i hi=>?_⟩;rw[uD (by omega)];exact h.cli i hi
theorem X6.ids{w:AWorld}{g:Nat→Gh}{es:Int}{K:List ATxn}{n:Nat}(h:X6 w g es K n):∀ j,j<3→(w.s j).peer.id=j:=fun j hj=>(h.sv j hj).1
theorem X6.elect{w:AWorld}{g:Nat→Gh}{es:Int}{K:List ATxn}{n:Nat}(h:X6 w g es K n)(hn:n<1000) :
  ∃ g' es',X6 (dg w).1 g' es' K (n+1)∧(dg w).1.done=w.done∧(dg w).1.deeds=w.deeds∧(∀ j,((dg w).1.s j).up=(w.s j).up)∧
    ((dg w).2.code=0→0≤(dg w).1.leader∧∀ j,j<3→(w.s j).up=true→(dg w).1.f j=true∧((dg w).1.s j).peer.done=(g' j).D.length)∧
    (2≤(bQ w).length→(∀ j,j<3→(w.s j).peer.done=0)→(dg w).2.code=0):=by
 have hids:=h.ids;have hup:∀ j,j<3→(w.s j).up=true→(w.s j).peer.log=(g j).D∧(w.s j).peer.epoch=(g j).E∧(∃ v,cz t00 (g j).D=some v):=fun j hj hu=>by obtain⟨e,he,hk,hlg,hep⟩:=(h.sv j hj).2.1 hu;exact⟨hlg,hep,by rw[←hlg];exact hk.play⟩
 have hpe:∀ p,p∈bQ w→0≤p.id∧p.id<3∧0≤p.epoch∧p.epoch≤(n:Int)∧epZ (aA p.log)≤(n:Int):=fun p hp=>by
  obtain⟨j,hj,hu,rfl⟩:=(iQ h.sl).1 hp;obtain⟨u1,u2,_⟩:=hup j hj hu;have h1:=hids j hj;have h2:=h.pr.E0 j hj;refine⟨by omega,by omega,by omega,by omega,?_⟩;rw[u1];have hes:=h.pr.esn
  by_cases e:(g j).D=[]
  ·rw[e,gS]
   show epZ 0≤_
   have:epZ 0=0:=by decide
   omega
  ·obtain⟨x,q1,q2⟩:=gl e
   rw[←q2];have ho:=h.pr.old j hj x q1;unfold epZ;split
   ·have:=ho.2.1;omega
   ·omega
 obtain⟨e1,e2⟩:=JM (l:=bQ w) (B:=(n:Int)) (by omega) (by omega) (Bh h.sl hids) hpe;unfold dg
 by_cases hlen:(bQ w).length<2
 ·rw[e1 hlen,RJ (show(14:Int)≠0 by decide)]
  exact⟨g,es,h.mono (by omega),rfl,rfl,fun _=>rfl,fun hc=>absurd (show(14:Int)=0 from hc) (by decide),fun hc=>absurd hc (by omega)⟩
 obtain⟨b,ep,hel,hb1,hb2,hb3⟩:=e2 (by omega);rw[hel,RI (fun h=>h rfl)];simp only;rw[show((b:Nat):Int).toNat=b from rfl];have hpm:=aZ (bQ w) b hb1;obtain⟨jb,j1,j2,j3⟩:=(iQ h.sl).1 hpm;rw[j3] at hb2 ⊢;obtain⟨u1,u2,u3⟩:=hup jb j1 j2;have hU:=Fq h.sl hids (by omega);rw[u1] at hb2 ⊢;have hK:K <+: (g jb).D:=h.pr.best hU j1 fun j hj hu=>by have:=(hb2 _ ((iQ h.sl).2 ⟨j,hj,hu,rfl⟩)).1;rwa[(hup j hj hu).1] at this
 have hes:es<ep:=h.pr.epoch hU fun j hj hu=>by have:=(hb2 _ ((iQ h.sl).2 ⟨j,hj,hu,rfl⟩)).2;rwa[(hup j hj hu).2.1] at this
 have hes0:=h.pr.es0;have hlog:=h.pr.log jb j1;have hsm:=h.small jb j1;have henc:=A4 hlog.2;obtain⟨g',q1,q2,q3,q4,q5,q6,q7,q8,q9,q10⟩:=rg (n:=n+1) (b:=jb) hlog (by omega) u3 (by omega) (by omega) hes (by omega) (by omega) j1 hK [0,1,2] w.resign [] g (by decide) (fun i hi=>by simp at hi;omega) (h.resign.mono (by omega)) rfl rfl (fun j _ hf=>by rw[B1] at hf;cases hf)
 have hin:∀ j,j<3→j∈[0,1,2]:=fun j hj=>by
  have:j=0∨j=1∨j=2:=by omega
  rcases this with rfl|rfl|rfl<;>simp
 by_cases hz:(bI (g jb).D ep [0,1,2] w.resign []).2.2=0
 case neg=>
  rw[RJ hz];exact⟨g',es,q1,q9,q10,q5,fun hc=>absurd hc hz,fun _ hd=>absurd (q8 fun j hj=>hd j (by simp at hj;omega)) hz⟩
 rw[RI (fun h=>h hz)];have q6':=q6 hz;generalize bI (g jb).D ep [0,1,2] w.resign []=R at q1 q2 q3 q4 q5 q6' q7 q9 q10 hz ⊢;have hfu:∀ j,j<3→(w.s j).up=true→R.1.f j=true:=fun j hj hu=>q6' j (hin j hj) hu
 have hjb:=q4 jb j1 (hfu jb j1 j2);have hidb:=hids jb j1;have hpr:=q1.pr;rw[q2] at hpr;have hprl:=hpr.lead hes (by omega) (hU.mono fun j hj hu=>by rw[(q4 j hj (hfu j hj hu)).2.1];exact SP _) j1 (by rw[hjb.2.1]) (by rw[q3];exact hK)
 have hwi:X6 { R.1 with leader:=(jb:Int) } g' ep K (n+1):=by
  refine⟨q1.sl,q1.fl,q1.cl,hprl,q1.sv,q1.small,fun _=>?_,fun _ j hj hf=>?_,q1.ack,fun m hm=>⟨(q1.cli m hm).1,(q1.cli m hm).2.lead hes _⟩⟩
  ·show R.1.f jb=true∧(R.1.s jb).peer.done=((g' jb).D.length:Int)
   exact⟨hfu jb j1 j2,by rw[hjb.2.2,hjb.2.1]⟩
  ·show(R.1.s j).up=true∧(g' j).D=(g' jb).D
   have:=q4 j hj hf;exact⟨this.1,by rw[this.2.1,hjb.2.1]⟩
 rw[hidb];refine⟨g',ep,hwi.tell _,q9,q10,q5,fun _=>⟨Int.natCast_nonneg _,fun j hj hu=>?_⟩,fun _ _=>rfl⟩
 have:=q4 j hj (hfu j hj hu);show R.1.f j=true∧(R.1.s j).peer.done=((g' j).D.length:Int);exact⟨hfu j hj hu,by rw[this.2.2,this.2.1]⟩
theorem td{t:XW}{z:Int}{r:XY}(h:(bA t z r).2=0):(bA t z r).1.zxid=z∧(ah t (bA t z r).1).2.2=0:=by
 unfold bA at h ⊢;split
 ·rename_i h1
  rw[RJ h1] at h;split
  ·rename_i h2
   rw[RJ h2] at h;split
   ·rename_i h3
    refine⟨?_,h3⟩;simp only;unfold fE at h2 ⊢
    by_cases o1:r.op=1∨r.op=2
    ·rw[RJ o1]
    rw[RI o1] at h2 ⊢
    by_cases o3:r.op=3
    ·rw[RJ o3]
    rw[RI o3] at h2 ⊢
    by_cases o4:r.op=4
    ·rw[RJ o4]
    rw[RI o4] at h2 ⊢
    by_cases o5:r.op=5
    ·rw[RJ o5]
    rw[RI o5] at h2;exact absurd (show(4:Int)=0 from h2) (by decide)
   ·rename_i h3
    rw[RI h3] at h;exact absurd h h3
  ·rename_i h2
   rw[RI h2] at h;exact absurd h h2
 ·rename_i h1
  rw[RI h1] at h;exact absurd (show(3:Int)=0 from h) (by decide)
theorem yI{t:XW}{x:ATxn}(h:(ah t x).2.2=0):aT x=0∧t.zxid<x.zxid:=by
 have h0:bw t x=0:=by apply Sh;intro hw;rw[mJ hw] at h;exact hw h
 have:=cm h0;exact⟨this.2.1,this.2.2.1⟩
theorem pU{x:ATxn}{lead lost slow:Int}{L:List ATxn}(hx:aT x=0)(hz:aA L<x.zxid)(hl:(encs L).length+(cE x).1.length≤1048576)(hp:∃ v,cz t00 (L++[x])=some v) :
  ∀ (r:List Nat) (w:AWorld) (g:Nat→Gh) (hv:List Nat),r.Nodup→(∀ i,i∈r→i<3)→w.sv.length=3→w.fl.length=3→(∀ j,j<3→jn (w.s j) (g j) j)→(∀ j,j∈r→w.f j=true→(w.s j).up=true∧(g j).D=L)→
    ∃ (g':Nat→Gh) (hv':List Nat),(bU x lead lost slow r w hv).2=(hv++hv',0)∧hv'.Sublist r∧(bU x lead lost slow r w hv).1.sv.length=3∧(bU x lead lost slow r w hv).1.fl.length=3∧
      (bU x lead lost slow r w hv).1.cl=w.cl∧(bU x lead lost slow r w hv).1.leader=w.leader∧(bU x lead lost slow r w hv).1.done=w.done∧(bU x lead lost slow r w hv).1.deeds=w.deeds∧
      (∀ j,j<3→jn ((bU x lead lost slow r w hv).1.s j) (g' j) j)∧(∀ j,((bU x lead lost slow r w hv).1.s j).up=(w.s j).up∧((bU x lead lost slow r w hv).1.s j).peer.done=(w.s j).peer.done)∧(∀ j,(g' j).E=(g j).E)∧
      (∀ j,¬ j∈r→(bU x lead lost slow r w hv).1.f j=w.f j∧g' j=g j)∧
      (∀ j,j∈r→((bU x lead lost slow r w hv).1.f j=true∧w.f j=true∧(g j).D=L∧(g' j).D=L++[x]∧(g j).a≤(g' j).a∧(g' j).a≤(g' j).D.length)∨((bU x lead lost slow r w hv).1.f j=false∧g' j=g j))∧
      (∀ j,j∈hv'→(bU x lead lost slow r w hv).1.f j=true∧(g' j).D=L++[x]∧(g' j).a=(g' j).D.length)∧
      (∀ j:Nat,lead=j→j∈r→w.f j=true→j∈hv')
 |[],w,g,hv,_,_,h1,h2,h3,_=>⟨g,[],by rw[bU,Se],TB _,h1,h2,rfl,rfl,rfl,rfl,h3,fun _=>⟨rfl,rfl⟩,fun _=>rfl,fun _ _=>⟨rfl,rfl⟩,fun _ h=>(by cases h),fun _ h=>(by cases h),fun _ _ h=>(by cases h)⟩
 | i :: r,w,g,hv,hnd,hr,h1,h2,h3,h4=>by
   have hi:i<3:=hr i (SF ..);have hr2:∀ j,j∈r→j<3:=fun j hj=>hr j (Si _ hj)
   obtain⟨hnd1,hnd2⟩:=Sj.1 hnd;rw[bU]
   by_cases hf:w.f i=false
   ·rw[RJ hf]
    obtain⟨g',hv',q0,q1,q2,q3,q4,q5,q6,q7,q8,q9,q10,q11,q12,q13,q14⟩:=pU hx hz hl hp (lead:=lead) (lost:=lost) (slow:=slow) r w g hv hnd2 hr2 h1 h2 h3 (fun j hj=>h4 j (Si _ hj));refine⟨g',hv',q0,q1.cons _,q2,q3,q4,q5,q6,q7,q8,q9,q10,fun j hj=>q11 j fun hh=>hj (Si _ hh),fun j hj=>?_,q13,fun j e hj hfj=>?_⟩
    ·rcases RW.1 hj with rfl|hj
     ·have:=q11 j hnd1
      exact .inr ⟨by rw[this.1,hf],this.2⟩
     ·exact q12 j hj
    ·rcases RW.1 hj with rfl|hj
     ·rw[hf] at hfj;cases hfj
     ·exact q14 j e hj hfj
   rw[RI hf];have hf:w.f i=true:=by simpa using hf
   obtain⟨hu,hD⟩:=h4 i (SF ..) hf
   by_cases hlost:¬ lead=(i:Int)∧oM lost i=true
   ·rw[RJ hlost]
    have hff:∀ j,(w.setF i false).f j=if j=i then false else w.f j:=fun j=>rl (by omega) false j
    have hne:∀ j,j∈r→j≠i:=fun j hj e=>hnd1 (by rw[←e];exact hj)
    obtain⟨g',hv',q0,q1,q2,q3,q4,q5,q6,q7,q8,q9,q10,q11,q12,q13,q14⟩:=pU hx hz hl hp (lead:=lead) (lost:=lost) (slow:=slow) r (w.setF i false) g hv hnd2 hr2 h1 (by simp only[AWorld.setF,R3];exact h2) h3 (fun j hj hfj=>h4 j (Si _ hj) (by rw[hff,RI (hne j hj)] at hfj;exact hfj));refine⟨g',hv',q0,q1.cons _,q2,q3,q4,q5,q6,q7,q8,q9,q10,fun j hj=>?_,fun j hj=>?_,q13,fun j e hj hfj=>?_⟩
    ·have:=q11 j fun hh=>hj (Si _ hh)
     rw[hff,RI (fun e=>hj (by rw[e];exact SF ..))] at this;exact this
    ·rcases RW.1 hj with rfl|hj
     ·have:=q11 j hnd1
      exact .inr ⟨by rw[this.1,hff,RJ rfl],this.2⟩
     ·have:=q12 j hj
      rw[hff,RI (hne j hj)] at this;exact this
    ·rcases RW.1 hj with rfl|hj
     ·exact absurd e hlost.1
     ·exact q14 j e hj (by rw[hff,RI (hne j hj)];exact hfj)
   rw[RI hlost];obtain⟨e1,e2,e3,e4,_⟩:=Mo (h3 i hi) hu hx (by rw[hD];exact hz) (by rw[hD];exact hl) (by rw[hD];exact hp) (decide (lead=(i:Int))||!oM slow i);rw[RI (fun h=>h e1)];generalize hsafe:(decide (lead=(i:Int))||!oM slow i)=safe at e1 e2 e3 e4 ⊢;generalize (bg (w.s i) x safe).1=s at e2 e3 e4 ⊢;have hs:∀ j,(w.setS i s).s j=if j=i then s else w.s j:=fun j=>fB (by omega) _ j
   have hne:∀ j,j∈r→j≠i:=fun j hj e=>hnd1 (by rw[←e];exact hj)
   have hal:(g i).a≤(g i).D.length:=by
    obtain⟨e,_,hk,hlg,_⟩:=(h3 i hi).2.1 hu
    have:=hk.le;rwa[hlg] at this
   obtain⟨g',hv',q0,q1,q2,q3,q4,q5,q6,q7,q8,q9,q10,q11,q12,q13,q14⟩:=pU hx hz hl hp (lead:=lead) (lost:=lost) (slow:=slow) r (w.setS i s) (upd g i ⟨(g i).D++[x],if safe=true then(g i).D.length+1 else(g i).a,(g i).E⟩) (if safe=true then hv++[i] else hv) hnd2 hr2 (by simp only[AWorld.setS,R3];exact h1) h2 (fun j hj=>by
     rw[hs]
     by_cases e:j=i
     ·subst e;rw[RJ rfl,dI];exact e2
     ·rw[RI e,ck _ _ e];exact h3 j hj) (fun j hj hfj=>by
     rw[hs,RI (hne j hj),ck _ _ (hne j hj)]
     exact h4 j (Si _ hj) hfj)
   have hgi:g' i=⟨(g i).D++[x],if safe=true then(g i).D.length+1 else(g i).a,(g i).E⟩:=by have:=(q11 i hnd1).2;rwa[dI] at this
   have hfi:(bU x lead lost slow r (w.setS i s) (if safe=true then hv++[i] else hv)).1.f i=true:=by rw[(q11 i hnd1).1];exact hf
   have hgE:∀ j,(upd g i ⟨(g i).D++[x],if safe=true then(g i).D.length+1 else(g i).a,(g i).E⟩ j).E=(g j).E:=fun j=>by
    by_cases e:j=i
    ·subst e;rw[dI]
    ·rw[ck _ _ e]
   have hso:∀ j,((w.setS i s).s j).up=(w.s j).up∧((w.setS i s).s j).peer.done=(w.s j).peer.done:=fun j=>by
    rw[hs]
    by_cases e:j=i
    ·subst e;rw[RJ rfl];exact⟨by rw[e3,hu],e4⟩
    ·rw[RI e];exact⟨rfl,rfl⟩
   refine⟨g',(if safe=true then[i] else[])++hv',?_,?_,q2,q3,q4,q5,q6,q7,q8,fun j=>⟨(q9 j).1.trans (hso j).1,(q9 j).2.trans (hso j).2⟩,fun j=>(q10 j).trans (hgE j),fun j hj=>?_,fun j hj=>?_,fun j hj=>?_,fun j e hj hfj=>?_⟩
   ·rw[q0]
    cases safe
    ·simp
    ·simp
   ·cases safe
    ·exact q1.cons _
    ·exact q1.cons_cons _
   ·have:=q11 j fun hh=>hj (Si _ hh)
    rw[ck _ _ (fun e=>hj (by rw[e];exact SF ..))] at this;exact this
   ·rcases RW.1 hj with rfl|hj
    ·refine .inl ⟨hfi,hf,hD,by rw[hgi,hD],?_,?_⟩
     ·rw[hgi];simp only;split<;>omega
     ·rw[hgi];simp only[RL,Sv];split<;>omega
    ·have:=q12 j hj
     rw[ck _ _ (hne j hj)] at this;exact this
   ·rcases Sp.1 hj with hj|hj
    ·cases safe
     ·simp at hj
     ·simp at hj
      subst hj;refine⟨hfi,by rw[hgi,hD],?_⟩;rw[hgi];simp
    ·exact q13 j hj
   ·rcases RW.1 hj with rfl|hj
    ·rw[decide_eq_true e,Bool.true_or] at hsafe
     subst hsafe;simp
    ·exact Sp.2 (.inr (q14 j e hj hfj))
theorem uo{g:Nat→Gh}:∀(r:List Nat) (w:AWorld) (ns:List XX),(∀ i,i∈r→i<3∧(w.s i).up=true)→w.sv.length=3→(∀ j,j<3→jn (w.s j) (g j) j)→
   (bj r w ns).2.2=0∧(bj r w ns).1.sv.length=3∧(bj r w ns).1.fl=w.fl∧(bj r w ns).1.cl=w.cl∧(bj r w ns).1.leader=w.leader∧(bj r w ns).1.done=w.done∧(bj r w ns).1.deeds=w.deeds∧
    (∀ j,j<3→jn ((bj r w ns).1.s j) (g j) j)∧(∀ j,((bj r w ns).1.s j).up=(w.s j).up)∧(∀ j,j∈r∨(w.s j).peer.done=(g j).D.length→((bj r w ns).1.s j).peer.done=(g j).D.length)
 |[],w,ns,_,h1,h2=>⟨rfl,h1,rfl,rfl,rfl,rfl,rfl,h2,fun _=>rfl,fun j hj=>hj.elim (fun h=>by cases h) id⟩
 | i :: r,w,ns,hr,h1,h2=>by
   obtain⟨hi,hu⟩:=hr i (SF ..);obtain⟨e,_,hk,hlg,_⟩:=(h2 i hi).2.1 hu;have hdl:=hk.dl;obtain⟨c1,c2,c3,c4⟩:=xK (h2 i hi) hu (n:=((w.s i).peer.log.length:Int)) hdl (by rw[hlg];exact SP _);rw[bj,RI (fun h=>h c1)];generalize (au (w.s i) (w.s i).peer.log.length).2.1=ms;generalize (au (w.s i) (w.s i).peer.log.length).1=s at c2 c3 c4 ⊢;have hs:∀ j,(w.setS i s).s j=if j=i then s else w.s j:=fun j=>fB (by omega) _ j
   have hup:∀ j,((w.setS i s).s j).up=(w.s j).up:=fun j=>by
    rw[hs]
    by_cases e:j=i
    ·subst e;rw[RJ rfl,c3,hu]
    ·rw[RI e]
   obtain⟨q1,q2,q3,q4,q5,q6,q7,q8,q9,q10⟩:=uo (g:=g) r (w.setS i s) (ns++ms) (fun j hj=>⟨(hr j (Si _ hj)).1,by rw[hup];exact(hr j (Si _ hj)).2⟩) (by simp only[AWorld.setS,R3];exact h1) (fun j hj=>by
    rw[hs]
    by_cases e:j=i
    ·subst e;rw[RJ rfl];exact c2
    ·rw[RI e];exact h2 j hj)
   refine⟨q1,q2,q3,q4,q5,q6,q7,q8,fun j=>(q9 j).trans (hup j),fun j hj=>q10 j ?_⟩
   by_cases e:j=i
   ·subst e;right;rw[hs,RJ rfl,c4,hlg]
   ·rcases hj with hj|hj
    ·exact .inl ((RW.1 hj).resolve_left e)
    ·right;rw[hs,RI e];exact hj
theorem PX{l:List Nat}(h:l.Sublist [0,1,2])(h2:2≤l.length):Two fun j=>j∈l:=by
 have hn:l.Nodup:=h.nodup (by decide);have hm:∀ j,j∈l→j<3:=fun j hj=>by have:=h.subset hj;simp at this;omega
 refine⟨l[0],l[1],hm _ (SD _),hm _ (SD _),fun e=>?_,SD _,SD _⟩
 have:=(SZ.1 hn) 0 1 (by omega) (by omega) (by omega);exact this e
theorem X6.lastOk{w:AWorld}{g:Nat→Gh}{es:Int}{K:List ATxn}{n:Nat}(h:X6 w g es K n){j:Nat}(hj:j<3):0≤aA (g j).D∧aA (g j).D/2147483648≤es∧aA (g j).D%2147483648≤n:=by
 have hes:=h.pr.es0
 by_cases e:(g j).D=[]
 ·rw[e,gS];omega
 ·obtain⟨x,q1,q2⟩:=gl e
  have ho:=h.pr.old j hj x q1;rw[q2] at ho;exact⟨ho.1,ho.2.1,ho.2.2.1⟩
theorem X6.write{w:AWorld}{g:Nat→Gh}{es:Int}{K:List ATxn}{n:Nat}(h:X6 w g es K n)(hn:n<1000)(d:X1) :
  ∃ g' K',X6 (dy w d).1 g' es K' (n+1)∧(dy w d).1.deeds=w.deeds∧((dy w d).2.code=0→∃ x,(dy w d).1.done=w.done++[x]∧(dy w d).2.zxid=x.zxid)∧((dy w d).2.code≠0→(dy w d).1.done=w.done):=by
 have h0:∀ e:Int,e≠0→∃ g' K',X6 (w,noR e).1 g' es K' (n+1)∧(w,noR e).1.deeds=w.deeds∧((w,noR e).2.code=0→∃ x,(w,noR e).1.done=w.done++[x]∧(w,noR e).2.zxid=x.zxid)∧((w,noR e).2.code≠0→(w,noR e).1.done=w.done):=
  fun e he=>⟨g,K,h.mono (by omega),rfl,fun hc=>absurd hc he,fun _=>rfl⟩
 unfold dy
 by_cases hcl:d.client<0∨16≤d.client
 ·rw[RJ hcl];exact h0 3 (by decide)
 rw[RI hcl]
 by_cases hld:w.leader<0
 ·rw[RJ hld];exact h0 14 (by decide)
 rw[RI hld];have hl0:0≤w.leader:=by omega
 obtain⟨hl3,hlE⟩:=h.pr.ld0 hl0;have hli:w.leader.toNat<3:=by omega
 obtain⟨hlf,hldone⟩:=h.lead hl0;obtain⟨hlu,_⟩:=h.fol hl0 _ hli hlf;obtain⟨ee,he,hk,hlg,hep⟩:=(h.sv _ hli).2.1 hlu;obtain⟨z0,z1,z2⟩:=h.lastOk hli;obtain⟨n1,n2,n3,n4⟩:=yH (p:=(w.s w.leader.toNat).peer) (n:=n) (by omega) h.pr.es0 h.pr.esn (by rw[hep,hlE]) (by rw[hlg];exact z0) (by rw[hlg];exact z1) (by rw[hlg];exact z2);rw[RI (fun h=>h n1)];simp only
 by_cases hpz:(bA (w.s w.leader.toNat).tree (cD (w.s w.leader.toNat).peer).1 (kP w d)).2=0
 case neg=>rw[RJ hpz];exact h0 _ hpz
 rw[RI (fun h=>h hpz)];obtain⟨p1,p2⟩:=td hpz;generalize (bA (w.s w.leader.toNat).tree (cD (w.s w.leader.toNat).peer).1 (kP w d)).1=x at p1 p2 ⊢;obtain⟨x1,_⟩:=yI p2;rw[←p1] at n2 n3 n4;rw[hlg] at n4;have hlogl:=h.pr.log _ hli;have henc:=A4 hlogl.2;have hsm:=h.small _ hli;have hxl:=nE x1;have hxs:=gg x1;have hplay:∃ v,cz t00 ((g w.leader.toNat).D++[x])=some v:=by refine⟨(ah (w.s w.leader.toNat).tree x).1,?_⟩;have ht:=hk.tree;rw[hldone,hlg,RK (by omega)] at ht;rw[rt,ht];show cz (w.s w.leader.toNat).tree [x]=_;rw[cz,RJ p2];rfl
 obtain⟨g',hv,q0,q1,q2,q3,q4,q5,q6,q7,q8,q9,q10,q11,q12,q13,q14⟩:=pU (lead:=w.leader) (lost:=d.lost) (slow:=d.slow) x1 n4 (by omega) hplay [0,1,2] w g [] (by decide) (fun i hi=>by simp at hi;omega) h.sl h.fl h.sv (fun j hj hfj=>by
  have:=h.fol hl0 j (by simp at hj;omega) hfj
  exact this)
 have hin:∀ j,j<3→j∈[0,1,2]:=fun j hj=>by
  have:j=0∨j=1∨j=2:=by omega
  rcases this with rfl|rfl|rfl<;>simp
 rw[q0];rw[Sx] at q0 ⊢;generalize (bU x w.leader d.lost d.slow [0,1,2] w []).1=W at q2 q3 q4 q5 q6 q7 q8 q9 q11 q12 q13 ⊢;rw[RI (fun h=>h rfl)];simp only
 have hT:∀ j,j<3→((g j).D=(g w.leader.toNat).D∧(g' j).D=(g w.leader.toNat).D++[x]∧(g j).a≤(g' j).a∧(g' j).a≤(g' j).D.length)∨((g' j).D=(g j).D∧(g' j).a=(g j).a):=fun j hj=>
  (q12 j (hin j hj)).imp (fun a=>⟨a.2.2.1,a.2.2.2.1,a.2.2.2.2.1,a.2.2.2.2.2⟩) (fun a=>⟨by rw[a.2],by rw[a.2]⟩)
 have hsmall:∀ j,j<3→(g' j).D.length≤n+1:=fun j hj=>by
  rcases hT j hj with a|a
  ·rw[a.2.1,RL,Sv];omega
  ·rw[a.1];have:=h.small j hj;omega
 have hprm:=h.pr.mono (show n≤n+1 by omega)
 by_cases hlen:hv.length<2
 ·rw[RJ hlen]
  refine⟨g',K,⟨q2,rfl,by show W.cl.length=16;rw[q4];exact h.cl,hprm.took hl0 x1 n2 n4 n3 hT (fun j _=>q10 j),q8,hsmall,fun h0=>absurd h0 (show ¬ (0:Int)≤-1 by decide),fun h0=>absurd h0 (show ¬ (0:Int)≤-1 by decide),by show W.done.Sublist K;rw[q6];exact h.ack,fun m hm=>?_⟩,q7,fun hc=>absurd hc (show ¬ (16:Int)=0 by decide),fun _=>q6⟩;have hc:W.resign.c m=w.c m:=by show W.cl.getD m default=w.cl.getD m default;rw[q4]
  rw[hc];exact⟨(h.cli m hm).1,((h.cli m hm).2.up (by omega)).gone _⟩
 rw[RI hlen];have hhv:∀ j,j∈hv→j<3:=fun j hj=>by have:=q1.subset hj;simp at this;omega
 have hWup:∀ j,j<3→W.f j=true→(W.s j).up=true:=fun j hj hf=>by
  rcases q12 j (hin j hj) with a|a
  ·rw[(q9 j).1];exact(h.fol hl0 j hj a.2.1).1
  ·rw[a.1] at hf;cases hf
 obtain⟨c1,c2,c3,c4,c5,c6,c7,c8,c9,c10⟩:=uo (g:=g') hv W [] (fun j hj=>⟨hhv j hj,hWup j (hhv j hj) (q13 j hj).1⟩) q2 q8;have hlin:=q14 w.leader.toNat (by omega) (hin _ hli) hlf;have hlx:=q13 _ hlin;have hack:=hprm.ackd hl0 x1 n2 n4 n3 hT (fun j _=>q10 j) hlx.2.1 ((PX q1 (by omega)).mono fun j _ hj=>(q13 j hj).2);unfold lP;simp only;generalize bj hv W []=R at c1 c2 c3 c4 c5 c6 c7 c8 c9 c10 ⊢;rw[RI (fun h=>h c1)];have hRl:R.1.leader=w.leader:=by rw[c5,q5]
 have hRc:R.1.cl=w.cl:=by rw[c4,q4]
 have hlast:aA (g w.leader.toNat).D≤aA (g' w.leader.toNat).D:=by rw[hlx.2.1,fO];omega
 have hwi:X6 { R.1 with done:=R.1.done++[x] } g' es ((g w.leader.toNat).D++[x]) (n+1):=by
  refine⟨c2,by show R.1.fl.length=3;rw[c3];exact q3,by show R.1.cl.length=16;rw[hRc];exact h.cl,by show Pr g' R.1.leader es _ _;rw[hRl];exact hack,c8,hsmall,fun _=>?_,fun _ j hj hf=>?_,?_,fun m hm=>?_⟩
  ·show R.1.fl.getD R.1.leader.toNat false=true∧(R.1.s R.1.leader.toNat).peer.done=((g' R.1.leader.toNat).D.length:Int)
   rw[hRl,c3];exact⟨hlx.1,c10 _ (.inl hlin)⟩
  ·show(R.1.s j).up=true∧(g' j).D=(g' R.1.leader.toNat).D
   have hfj:W.f j=true:=by have:R.1.fl.getD j false=true:=hf;rw[c3] at this;exact this
   rw[hRl,c9,hlx.2.1];refine⟨hWup j hj hfj,?_⟩;rcases q12 j (hin j hj) with a|a
   ·exact a.2.2.2.1
   ·rw[a.1] at hfj;cases hfj
  ·show(R.1.done++[x]).Sublist _
   rw[c6,q6];exact(h.ack.trans (h.pr.k3 hl0).sublist).append (TB _)
  ·have hc:({ R.1 with done:=R.1.done++[x] }:AWorld).c m=w.c m:=by show R.1.cl.getD m default=w.cl.getD m default;rw[hRc]
   rw[hc];refine⟨(h.cli m hm).1,?_⟩;show Old R.1.leader es (g' R.1.leader.toNat).D (n+1) _;rw[hRl];exact((h.cli m hm).2.up (by omega)).more hlast
 have ht:=hwi.tell R.2.1;have hwho:d.client.toNat<16:=by omega
 have hcwho:(dk { R.1 with done:=R.1.done++[x] } R.2.1).c d.client.toNat=⟨(w.c d.client.toNat).session,(w.c d.client.toNat).seen,dZ (w.c d.client.toNat).session (w.c d.client.toNat).cache R.2.1⟩:=by
  rw[uD (by show d.client.toNat<R.1.cl.length;rw[hRc,h.cl];exact hwho)];have hc:({ R.1 with done:=R.1.done++[x] }:AWorld).c d.client.toNat=w.c d.client.toNat:=by show R.1.cl.getD _ default=w.cl.getD _ default;rw[hRc]
  rw[hc]
 have hseen:(w.c d.client.toNat).seen≤x.zxid:=by have ho:=(h.cli _ hwho).2;rcases ho.2.2.2 hl0 with a|a<;>omega
 have hsee:gv ((dk { R.1 with done:=R.1.done++[x] } R.2.1).c d.client.toNat) x.zxid=(⟨(w.c d.client.toNat).session,x.zxid,dZ (w.c d.client.toNat).session (w.c d.client.toNat).cache R.2.1⟩,0):=by rw[hcwho];unfold gv;rw[RI (by simp only;omega)]
 rw[hsee,RI (fun h=>h rfl)];refine⟨g',_,X6.setC ht hwho (h.cli _ hwho).1 ?_,?_,fun _=>⟨x,?_,rfl⟩,fun hc=>absurd rfl hc⟩
 ·show Old R.1.leader es (g' R.1.leader.toNat).D (n+1) x.zxid
  rw[hRl,hlx.2.1];have hes:=h.pr.es0;exact⟨by omega,by omega,n3,fun _=>.inr (by rw[fO];exact SP _)⟩
 ·show R.1.deeds=w.deeds
  rw[c7,q7]
 ·show R.1.done++[x]=w.done++[x]
  rw[c6,q6]
theorem GC:gC []=0:=by decide +kernel
theorem Jk{i:Nat}(hi:i<3):cK i []=(⟨true,⟨mkD none [] []⟩,⟨i,0,[],0⟩,t00,[]⟩,0):=by unfold cK;rw[RI (by omega),Fv,RI (fun h=>h rfl),GC]
theorem LS{i:Nat}(hi:i<3):je.s i=⟨true,⟨mkD none [] []⟩,⟨i,0,[],0⟩,t00,[]⟩:=by
 have:je.s i=(cK i []).1:=by
  have hc:i=0∨i=1∨i=2:=by omega
  rcases hc with rfl|rfl|rfl<;>rfl
 rw[this,Jk hi]
theorem Pw{i:Nat}(hi:i<16):je.c i=⟨(i:Int)+1,0,[]⟩:=by unfold je AWorld.c;simp only;rw[RG,RS,RH (by simpa using hi),Uo];rfl
theorem KT(i:Int):X9 ⟨true,⟨mkD none [] []⟩,⟨i,0,[],0⟩,t00,[]⟩ none 0:=
 ⟨rfl,rfl,RP _,nq,by simp[fI],fun x hx=>(by cases hx),SP _,SP _,rfl,⟨t00,rfl⟩⟩
theorem X6.start:X6 je (fun _=>⟨[],0,0⟩) 0 [] 0:=by
 refine⟨rfl,rfl,rfl,Pr.start,fun j hj=>?_,fun _ _=>RP _,fun h=>absurd h (show ¬ (0:Int)≤-1 by decide),fun h=>absurd h (show ¬ (0:Int)≤-1 by decide),TB _,fun i hi=>?_⟩
 ·rw[LS hj]
  exact⟨rfl,fun _=>⟨none,.inl ⟨rfl,rfl⟩,KT _,rfl,rfl⟩,fun h=>(by cases h)⟩
 ·rw[Pw hi]
  exact⟨rfl,Pr.start.zero⟩
theorem X6.act{w:AWorld}{g:Nat→Gh}{es:Int}{K:List ATxn}{n:Nat}(h:X6 w g es K n)(hn:n<1000)(d:X1):∃ g' es' K',X6 (qD w d).1 g' es' K' (n+1):=by
 unfold qD;split
 ·obtain⟨g',K',hh,_⟩:=h.write hn d;exact⟨g',es,K',hh⟩
 split
 ·exact⟨g,es,K,(h.read d).mono (by omega)⟩
 split
 ·obtain⟨g',es',hh,_⟩:=h.elect hn;exact⟨g',es',K,hh⟩
 split
 ·split
  ·exact⟨g,es,K,h.mono (by omega)⟩
  split
  ·exact⟨g,es,K,(h.up (by omega)).mono (by omega)⟩
  ·obtain⟨g',hh⟩:=h.crash (i:=d.server.toNat) (by omega) d.keep
   exact⟨g',es,K,hh.mono (by omega)⟩
 ·exact⟨g,es,K,h.mono (by omega)⟩
theorem X6.does{w:AWorld}{g:Nat→Gh}{es:Int}{K:List ATxn}{n:Nat}(h:X6 w g es K n)(hn:n<1000)(d:X1):∃ g' es' K',X6 (doW w d).1 g' es' K' (n+1):=by
 unfold doW;split
 ·exact⟨g,es,K,h.mono (by omega)⟩
 ·exact(h.deeds (w.deeds+1)).act hn d
def ll(w:AWorld)(l:List X1):AWorld:=l.foldl (fun w d=>(doW w d).1) w
theorem X6.trees{w:AWorld}{g:Nat→Gh}{es:Int}{K:List ATxn}{n:Nat}(h:X6 w g es K n){j:Nat}(hj:j<3) :
  0≤(w.s j).peer.done∧(w.s j).peer.done≤(w.s j).peer.log.length∧cz t00 ((w.s j).peer.log.take (w.s j).peer.done.toNat)=some (w.s j).tree∧aS (w.s j).tree=true:=by
 have hs:=h.sv j hj;cases hu:(w.s j).up
 ·obtain⟨e,_,hk,_⟩:=hs.2.2 hu
  rw[hk.done,hk.log,hk.tree];exact⟨SP _,SP _,rfl,pf⟩
 ·obtain⟨e,_,hk,_⟩:=hs.2.1 hu
  exact⟨hk.d0,hk.dl,hk.tree,qP pf hk.tree⟩
theorem cY{z:Int}(h0:0≤z)(h1:z<9223372036854775808):okI z:=by unfold okI;omega
theorem mu{t:XW}(hg:aS t=true):okT t∧t.nodes.length≤400∧t.sessions.length≤2147483647∧∀ n,n∈t.nodes→n.path.length≤200∧n.data.length≤256:=by
 obtain⟨p1,p2⟩:=zy hg;obtain⟨h1,h2,_,_⟩:=bi.1 hg;obtain⟨_,h3⟩:=mg.1 h2;have hz:=h1.2.2.2.2;unfold bd at hz;have hl:=mA hg;have hn:∀ n,n∈t.nodes→n.path.length≤200∧n.data.length≤256:=fun n hn=>⟨(kb (p1.good _ (Uc hn))).2.2.1,(p2 n hn).data⟩
 refine⟨⟨⟨cY hz.1 (by omega),⟨by have:=h1.2.1;omega,fun n hm=>?_⟩,⟨by omega,fun s hs=>?_⟩⟩,fun n hm=>by have:=(hn n hm).1;omega⟩,h1.2.1,hl,hn⟩
 ·have hk:=p2 n hm
  have hs:=hn n hm;obtain⟨z1,z2,z3,z4,z5⟩:=hk.zs;have hkl:=vh (ar t) n.path;have hl4:=p1.len;have hkk:=hk.kids;refine⟨by unfold okS;omega,by unfold okS;omega,cY z1 (by omega),cY (by omega) (by omega),cY (by omega) (by omega),cY hk.v.1 (by have:=hk.v.2;omega),cY hk.cv.1 (by have:=hk.cv.2;omega),?_,cY (by omega) (by omega)⟩
  by_cases ho:n.stat.owner=0
  ·rw[ho];exact cY (by decide) (by decide)
  ·have:=h3 _ (hk.own ho).1
   exact cY (by omega) (by omega)
 ·have:=h3 s hs
  exact cY (by omega) (by omega)
theorem Cr{x:ATxn}(h:aT x=0):x.wf∧x.path.length≤200:=by obtain⟨g1,g2,g3,g4,g5,g6,g7⟩:=gg h;exact⟨⟨cY g1.1 g1.2,cY (by omega) (by omega),cY (by omega) (by omega),by unfold okS;omega,by unfold okS;omega,cY (by omega) (by omega),cY (by omega) (by omega)⟩,g6⟩
theorem JG{e:Option (List UInt8)}{s t:List UInt8}(h:okD e s t):X4.wf ⟨mkD e s t⟩:=by
 have hn1:okS epN:=by unfold okS;decide
 have hn2:okS logN:=by unfold okS;decide
 have h0:okS []:=by unfold okS;decide
 have h2:=h.2;cases e with
 |none=>exact⟨by simp[mkD],fun f hf=>by rw[S5.1 hf];exact⟨hn2,by show s.length≤_;omega,by show t.length≤_;omega⟩⟩
 | some x=>
   have:=h.1 x rfl;refine⟨by simp[mkD],fun f hf=>?_⟩;rcases RW.1 hf with e|e
   ·rw[e];exact⟨hn1,by show x.length≤_;omega,h0⟩
   ·rw[S5.1 e];exact⟨hn2,by show s.length≤_;omega,by show t.length≤_;omega⟩
def fK(l:List AWatch):Prop:=l.length≤400∧∀ x,x∈l→x.wf∧x.path.length≤200
theorem fK.sub{l m:List AWatch}(h:fK l)(hs:m.Sublist l):fK m:=⟨R8 hs.length_le h.1,fun x hx=>h.2 x (hs.subset hx)⟩
theorem fK.nil:fK []:=⟨RX _,fun x hx=>by cases hx⟩
theorem fK.add{l:List AWatch}(h:fK l){x:AWatch}(hx:(jH l x).2=0):fK (jH l x).1:=by
 unfold jH at hx ⊢;split
 ·exact fK.nil
 rename_i h1;rw[RI h1] at hx;split
 ·exact fK.nil
 rename_i h2;rw[RI h2] at hx;split
 ·exact fK.nil
 rename_i h3;rw[RI h3] at hx;split
 ·exact h
 rename_i h4;rw[RI h4] at hx;split
 ·exact fK.nil
 rename_i h5;have hp:=(kb (TA.1 h2)).2.2.1;refine⟨by simp only[RL,Sv];omega,fun y hy=>?_⟩;rcases Sp.1 hy with e|e
 ·exact h.2 y e
 ·rw[S5.1 e]
  exact⟨⟨cY (by omega) (by omega),cY (by omega) (by omega),by unfold okS;omega⟩,hp⟩
theorem uE:∀(es:List XZ) (p:List XX×List AWatch),(es.foldl mS p).2.Sublist p.2
 |[],p=>TB _
 |e::es,p=>(uE es (mS p e)).trans (by unfold mS keptW;exact VN)
theorem AT:∀(X:List ATxn) (p:CSt),(jm X p).1.w.Sublist p.w
 |[],p=>TB _
 | x :: X,p=>by
   rw[jm];split
   ·refine(AT X _).trans ?_
    unfold jv;simp only;split
    ·exact VN.trans (uE _ _)
    ·exact uE _ _
   ·exact TB _
theorem commit_sub(s:XV)(n:Int):(au s n).1.watches.Sublist s.watches:=by
 unfold au;split
 ·exact T2 _
 ·simp only
  split
  ·exact AT _ _
  ·exact T2 _
theorem jn.wf{s:XV}{g:Gh}{j n:Nat}(h:jn s g j)(hj:j<3)(hn:g.D.length≤n)(hn2:n<100000)(hE:0≤g.E∧g.E≤n)(hw:fK s.watches):s.wf∧okT s.tree∧aS s.tree=true∧∀ x,x∈s.peer.log→x.wf∧x.path.length≤200:=by
 obtain⟨hid,h1,h2⟩:=h;have hwl:=hw.1;have hww:s.watches.length*32≤140737488351232∧∀ y:AWatch,y∈s.watches→y.wf:=⟨by omega,fun y hy=>(hw.2 y hy).1⟩;have hidk:okI s.peer.id:=by rw[hid];exact cY (by omega) (by omega)
 cases hu:s.up
 ·obtain⟨e,_,hk,_⟩:=h2 hu
  obtain⟨c,c1,c2,_⟩:=hk.disk;have hg:aS s.tree=true:=by rw[hk.tree];exact pf
  have hdw:s.disk.wf:=by have:=JG (e:=e) (s:=c) (t:=[]) ⟨hk.elen,by simpa using c2⟩;unfold X4.wf at this ⊢;rw[c1];exact this
  refine⟨⟨Yj,hdw,⟨hidk,by rw[hk.ep];exact cY (by decide) (by decide),⟨by rw[hk.log];simp,fun x hm=>by rw[hk.log] at hm;cases hm⟩,by rw[hk.done];exact cY (by decide) (by decide)⟩,(mu hg).1.1,hww⟩,(mu hg).1,hg,fun x hm=>by rw[hk.log] at hm;cases hm⟩
 ·obtain⟨e,_,hk,hlg,hep⟩:=h1 hu
  have hg:aS s.tree=true:=qP pf hk.tree;have hdw:s.disk.wf:=by have:=JG hk.okD;unfold X4.wf at this ⊢;rw[hk.disk];exact this
  have hx:∀ x,x∈s.peer.log→x.wf∧x.path.length≤200:=fun x hx=>Cr (hk.log.2 x hx)
  have hd0:=hk.d0;have hdl:=hk.dl;rw[hlg] at hdl;exact⟨⟨Yj,hdw,⟨hidk,by rw[hep];exact cY hE.1 (by omega),⟨by rw[hlg];omega,fun x hm=>(hx x hm).1⟩,cY hd0 (by omega)⟩,(mu hg).1.1,hww⟩,(mu hg).1,hg,hx⟩
def cJ(w:AWorld):Prop:=∀ j,fK (w.s j).watches
theorem HX(w:AWorld)(i:Nat)(s:XV)(j:Nat):(w.setS i s).s j=s∨(w.setS i s).s j=w.s j:=by
 by_cases h:i<w.sv.length
 ·rw[fB h]
  split
  ·exact .inl rfl
  ·exact .inr rfl
 ·right
  unfold AWorld.setS AWorld.s;simp only;rw[Wc (by omega)]
theorem cJ.set{w:AWorld}(h:cJ w){s:XV}(hs:fK s.watches)(i:Nat):cJ (w.setS i s):=fun j=>by
 rcases HX w i s j with e|e
 ·rw[e];exact hs
 ·rw[e];exact h j
theorem take_sub(s:XV)(x:ATxn)(safe:Bool):(bg s x safe).1.watches.Sublist s.watches:=by
 unfold bg;split
 ·exact T2 _
 ·split
  ·exact TB _
  ·exact T2 _
theorem xC:∀(r:List ATxn) (s:XV),(eS s r).1.watches.Sublist s.watches
 |[],s=>TB _
 | x::r,s=>by
   rw[eS];split
   ·exact(xC r _).trans (take_sub s x true)
   ·exact T2 _
theorem jD(s:XV)(l:List ATxn)(ep:Int):(aG s l ep).1.watches.Sublist s.watches:=by
 unfold aG;split
 ·exact T2 _
 split
 ·exact T2 _
 split
 ·exact T2 _
 exact xC _ _
theorem crash_sub(s:XV)(keep:Int):(bR s keep).1.watches=[]:=by
 unfold bR
 split<;>rfl
theorem boot_sub(i:Int)(l:List AFile):(cK i l).1.watches=[]:=by
 unfold cK;split
 ·rfl
 split<;>rfl
theorem oZ{l:List ATxn}{ep:Int}:∀(r:List Nat) {w:AWorld} {ns:List XX},cJ w→cJ (bI l ep r w ns).1
 |[],w,ns,h=>h
 | i::r,w,ns,h=>by
   rw[bI];split
   ·exact oZ r h
   split
   ·exact h
   split
   ·exact h
   refine oZ r ?_
   have:fK (au (aG (w.s i) l ep).1 l.length).1.watches:=((h i).sub (jD _ _ _)).sub (commit_sub _ _);exact h.set this i
theorem ku{x:ATxn}{lead lost slow:Int}:∀(r:List Nat) {w:AWorld} {hv:List Nat},cJ w→cJ (bU x lead lost slow r w hv).1
 |[],w,hv,h=>h
 | i::r,w,hv,h=>by
   rw[bU];split
   ·exact ku r h
   split
   ·exact ku r (w:=w.setF i false) h
   split
   ·exact h
   exact ku r (h.set ((h i).sub (take_sub _ _ _)) i)
theorem rY:∀(r:List Nat) {w:AWorld} {ns:List XX},cJ w→cJ (bj r w ns).1
 |[],w,ns,h=>h
 | i::r,w,ns,h=>by
   rw[bj];split
   ·exact h
   exact rY r (h.set ((h i).sub (commit_sub _ _)) i)
theorem cJ.act{w:AWorld}(h:cJ w)(d:X1):cJ (qD w d).1:=by
 unfold qD;split
 ·unfold dy
  split
  ·exact h
  split
  ·exact h
  split
  ·exact h
  simp only;split
  ·exact h
  have ht:=ku (x:=(bA (w.s w.leader.toNat).tree (cD (w.s w.leader.toNat).peer).1 (kP w d)).1) (lead:=w.leader) (lost:=d.lost) (slow:=d.slow) [0,1,2] (hv:=[]) h;generalize bU _ _ _ _ _ _ _=R at ht ⊢;split
  ·exact ht
  split
  ·exact ht
  unfold lP;simp only;have hc:=rY R.2.1 (ns:=[]) ht;generalize bj _ _ _=Q at hc ⊢;split
  ·exact hc
  split
  ·exact hc
  ·exact hc
 split
 ·unfold ig
  split
  ·exact h
  simp only;split
  ·exact h
  split
  ·exact h
  split
  ·split
   ·exact h
   ·rename_i ha
    refine cJ.set (w:=w) h ?_ d.server.toNat;exact(h d.server.toNat).add (TA.1 ha)
  ·exact h
 split
 ·unfold dg
  split
  ·exact h
  simp only;have ht:=oZ (l:=((bQ w).getD (bS (bQ w)).1.toNat default).log) (ep:=(bS (bQ w)).2.1) [0,1,2] (w:=w.resign) (ns:=[]) h;generalize bI _ _ _ _ _=R at ht ⊢;split
  ·exact ht
  ·exact ht
 split
 ·split
  ·exact h
  split
  ·unfold upW
   split
   ·exact h
   split
   ·exact h
   exact h.set (by rw[boot_sub];exact fK.nil) _
  ·unfold iv
   split
   ·exact h
   split
   ·exact h
   have hs:cJ (w.setS d.server.toNat (bR (w.s d.server.toNat) d.keep).1):=h.set (by rw[crash_sub];exact fK.nil) _;simp only;split
   ·exact hs
   ·exact hs
 ·exact h
theorem cJ.does{w:AWorld}(h:cJ w)(d:X1):cJ (doW w d).1:=by
 unfold doW;split
 ·exact h
 ·exact cJ.act (w:={ w with deeds:=w.deeds+1 }) h d
theorem cJ.start:cJ je:=fun j=>by
 by_cases h:j<3
 ·rw[LS h];exact fK.nil
 ·have:je.s j=default:=by
   unfold AWorld.s;rw[RG,R9 (by show 3≤j;omega)];rfl
  rw[this];exact fK.nil
theorem lA{l:List ATxn}{ep:Int}:∀(r:List Nat) (w:AWorld) (ns:List XX),(bI l ep r w ns).1.deeds=w.deeds
 |[],w,ns=>rfl
 | i::r,w,ns=>by
   rw[bI];split
   ·exact lA r w ns
   split
   ·rfl
   split
   ·rfl
   rw[lA r];rfl
theorem jO{x:ATxn}{lead lost slow:Int}:∀(r:List Nat) (w:AWorld) (hv:List Nat),(bU x lead lost slow r w hv).1.deeds=w.deeds
 |[],w,hv=>rfl
 | i::r,w,hv=>by
   rw[bU];split
   ·exact jO r w hv
   split
   ·rw[jO r];rfl
   split
   ·rfl
   rw[jO r];rfl
theorem oh:∀(r:List Nat) (w:AWorld) (ns:List XX),(bj r w ns).1.deeds=w.deeds
 |[],w,ns=>rfl
 | i::r,w,ns=>by
   rw[bj];split
   ·rfl
   rw[oh r];rfl
theorem Fs(w:AWorld)(d:X1):(qD w d).1.deeds=w.deeds:=by
 unfold qD;split
 ·unfold dy
  split
  ·rfl
  split
  ·rfl
  split
  ·rfl
  simp only;split
  ·rfl
  have ht:=jO (x:=(bA (w.s w.leader.toNat).tree (cD (w.s w.leader.toNat).peer).1 (kP w d)).1) (lead:=w.leader) (lost:=d.lost) (slow:=d.slow) [0,1,2] w [];generalize bU _ _ _ _ _ _ _=R at ht ⊢;split
  ·exact ht
  split
  ·exact ht
  unfold lP;simp only;have hc:=oh R.2.1 R.1 [];generalize bj _ _ _=Q at hc ⊢;split
  ·exact hc.trans ht
  split
  ·exact hc.trans ht
  ·exact hc.trans ht
 split
 ·unfold ig
  split
  ·rfl
  simp only;split
  ·rfl
  split
  ·rfl
  split
  ·split
   ·rfl
   ·rfl
  ·rfl
 split
 ·unfold dg
  split
  ·rfl
  simp only;have ht:=lA (l:=((bQ w).getD (bS (bQ w)).1.toNat default).log) (ep:=(bS (bQ w)).2.1) [0,1,2] w.resign [];generalize bI _ _ _ _ _=R at ht ⊢;split
  ·exact ht
  ·exact ht
 split
 ·split
  ·rfl
  split
  ·unfold upW
   split
   ·rfl
   split
   ·rfl
   ·rfl
  ·unfold iv
   split
   ·rfl
   split
   ·rfl
   simp only;split
   ·rfl
   ·rfl
 ·rfl
theorem Il{w:AWorld}(h:w.deeds<300)(d:X1):(doW w d).1.deeds=w.deeds+1:=by unfold doW;rw[RI (by omega),Fs]
theorem MS{w:AWorld}(h:300≤w.deeds)(d:X1):doW w d=(w,noR 6):=by unfold doW;rw[RJ h]
theorem xB{l:List (List UInt8)}:aF l↔l.Pairwise (fun a b=>a<b):=by
 have gd (j:Nat) (hj:j<l.length):l.getD j []=l[j]:=by rw[RG,RH hj];rfl
 constructor
 ·intro h
  refine SZ.2 fun i j hi hj hij=>?_
  have:=aV h hij hj;rwa[gd i hi,gd j hj] at this
 ·intro h k hk
  rw[gd k (by omega),gd (k+1) hk];exact SZ.1 h k (k+1) (by omega) hk (by omega)
def fC(l:List AEntry)(n:Nat):Prop:=aF (l.map AEntry.path)∧l.length≤n∧∀ e,e∈l→e.path.length≤200∧e.data.length≤256
theorem fC.sub{l m:List AEntry}{n:Nat}(h:fC l n)(hs:m.Sublist l):fC m n:=
 ⟨xB.2 ((xB.1 h.1).sublist (hs.map _)),R8 hs.length_le h.2.1,fun e he=>h.2.2 e (hs.subset he)⟩
theorem fC.nil(n:Nat):fC [] n:=⟨fun k hk=>absurd hk (by simp),RX _,fun e he=>by cases he⟩
theorem fC.mono{l:List AEntry}{n m:Nat}(h:fC l n)(hm:n≤m):fC l m:=⟨h.1,R8 h.2.1 hm,h.2.2⟩
theorem qC(s:Int):∀(ns:List XX) (l:List AEntry),(dZ s l ns).Sublist l
 |[],l=>TB _
 | a::ns,l=>by
   have h:=qC s ns (lR s l a);refine(show(dZ s l (a::ns)).Sublist (lR s l a) from h).trans ?_;unfold lR;split
   ·exact VN
   ·exact TB _
theorem BJ{e:AEntry}(h:e.path.length≤200∧e.data.length≤256):(normE e).path=e.path∧(normE e).path.length≤200∧(normE e).data.length≤256:=by
 unfold normE;split
 ·exact⟨rfl,h⟩
 ·exact⟨rfl,h.1,RX _⟩
theorem fC.keep{l:List AEntry}{n:Nat}(h:fC l n){e:AEntry}(he:e.path.length≤200∧e.data.length≤256):fC (fR l e) (n+1):=by
 obtain⟨h1,h2,h3⟩:=h;obtain⟨e1,e2,e3⟩:=BJ he;unfold fR;split
 ·rename_i hm
  have hf:=ag h1 hm;have hi:place (l.map AEntry.path) e.path<l.length:=by have:=hf.1;rwa[RO] at this
  refine⟨?_,by rw[R3];omega,fun x hx=>?_⟩
  ·have:(l.set (place (l.map AEntry.path) e.path) (normE e)).map AEntry.path=l.map AEntry.path:=by
    rw[UL,e1];apply SR;intro j;rw[To];split
    ·rename_i ej;subst ej
     rw[RJ hf.1]
     have:=hf.2;rw[RG,RH hf.1] at this;rw[RH hf.1];exact congrArg some this.symm
    ·rfl
   rw[this];exact h1
  ·rcases Td hx with hx|hx
   ·exact h3 x hx
   ·rw[hx];exact⟨e2,e3⟩
 ·rename_i hm
  have hp:=eT (l.map AEntry.path) e.path;rw[RO] at hp;refine⟨?_,by rw[dD _ _ _ hp];omega,fun x hx=>?_⟩
  ·have:(l.insertIdx (place (l.map AEntry.path) e.path) (normE e)).map AEntry.path=(l.map AEntry.path).insertIdx (place (l.map AEntry.path) e.path) e.path:=by
    rw[←kW,e1]
   rw[this];exact nk h1 hm
  ·rcases(T0 hp).1 hx with hx|hx
   ·rw[hx];exact⟨e2,e3⟩
   ·exact h3 x hx
theorem qS{l:List ATxn}{ep:Int}:∀(r:List Nat) (w:AWorld) (ns:List XX),(bI l ep r w ns).1.cl=w.cl
 |[],w,ns=>rfl
 | i::r,w,ns=>by
   rw[bI];split
   ·exact qS r w ns
   split
   ·rfl
   split
   ·rfl
   rw[qS r];rfl
theorem m9{x:ATxn}{lead lost slow:Int}:∀(r:List Nat) (w:AWorld) (hv:List Nat),(bU x lead lost slow r w hv).1.cl=w.cl
 |[],w,hv=>rfl
 | i::r,w,hv=>by
   rw[bU];split
   ·exact m9 r w hv
   split
   ·rw[m9 r];rfl
   split
   ·rfl
   rw[m9 r];rfl
theorem o6:∀(r:List Nat) (w:AWorld) (ns:List XX),(bj r w ns).1.cl=w.cl
 |[],w,ns=>rfl
 | i::r,w,ns=>by
   rw[bj];split
   ·rfl
   rw[o6 r];rfl
def cf(l:List X0)(n:Nat):Prop:=∀ c,c∈l→fC c.cache n
theorem cf.mono{l:List X0}{n m:Nat}(h:cf l n)(hm:n≤m):cf l m:=fun c hc=>(h c hc).mono hm
theorem cf.tell{w:AWorld}{n:Nat}(h:cf w.cl n)(ns:List XX):cf (dk w ns).cl n:=fun c hc=>by obtain⟨c0,h1,rfl⟩:=SV.1 hc;exact(h c0 h1).sub (qC _ _ _)
theorem cf.set{l:List X0}{n:Nat}(h:cf l n){c:X0}(hc:fC c.cache n)(i:Nat):cf (l.set i c) n:=fun x hx=>by
 rcases Td hx with hx|hx
 ·exact h x hx
 ·rw[hx];exact hc
theorem cf.getD{l:List X0}{n:Nat}(h:cf l n)(i:Nat):fC (l.getD i default).cache n:=by
 by_cases hi:i<l.length
 ·exact h _ (aZ l i hi)
 ·rw[RG,R9 (by omega)]
  exact fC.nil n
theorem seeC_cache{c:X0}{n:Nat}(h:fC c.cache n)(z:Int):fC (gv c z).1.cache n:=by
 unfold gv;split
 ·exact fC.nil n
 ·exact h
theorem tree_data{t:XW}(hg:aS t=true)(p:List UInt8):(aw t p).1.data.length≤256:=by
 unfold aw;split
 ·rename_i hm
  have hf:=ag (aE hg) hm;have hpl:=hf.1;rw[aK] at hpl;exact((mu hg).2.2.2 _ (mW hpl)).2
 ·exact RX _
theorem yO{l:List AWatch}{x:AWatch}(h:(jH l x).2=0):x.path.length≤200:=by
 unfold jH at h;split at h
 ·exact absurd h (by decide)
 split at h
 ·exact absurd h (by decide)
 rename_i h2;exact(kb (TA.1 h2)).2.2.1
theorem cf.act{w:AWorld}{n:Nat}(h:cf w.cl n)(hg:∀ j,j<3→aS (w.s j).tree=true)(d:X1):cf (qD w d).1.cl (n+1):=by
 have h1:cf w.cl (n+1):=h.mono (by omega);unfold qD;split
 ·unfold dy
  split
  ·exact h1
  split
  ·exact h1
  split
  ·exact h1
  simp only;split
  ·exact h1
  have ht:=m9 (x:=(bA (w.s w.leader.toNat).tree (cD (w.s w.leader.toNat).peer).1 (kP w d)).1) (lead:=w.leader) (lost:=d.lost) (slow:=d.slow) [0,1,2] w [];generalize bU _ _ _ _ _ _ _=R at ht ⊢;split
  ·simp only;rw[ht];exact h1
  split
  ·show cf R.1.cl (n+1);rw[ht];exact h1
  unfold lP;simp only;have hc:=o6 R.2.1 R.1 [];generalize bj _ _ _=Q at hc ⊢;have hq:cf Q.1.cl (n+1):=by rw[hc,ht];exact h1
  split
  ·exact hq
  have hu:cf (dk { Q.1 with done:=Q.1.done++[(bA (w.s w.leader.toNat).tree (cD (w.s w.leader.toNat).peer).1 (kP w d)).1] } Q.2.1).cl (n+1):=cf.tell (w:={ Q.1 with done:=Q.1.done++[(bA (w.s w.leader.toNat).tree (cD (w.s w.leader.toNat).peer).1 (kP w d)).1] }) hq _;split
  ·exact hu
  ·exact hu.set (seeC_cache (hu.getD d.client.toNat) _) _
 split
 ·unfold ig
  split
  ·exact h1
  rename_i hd;simp only;split
  ·exact h1
  split
  ·exact h1
  have hs:=seeC_cache (h.getD d.client.toNat) (w.s d.server.toNat).tree.zxid;split
  ·split
   ·exact h1
   ·rename_i ha
    have hp:=yO (TA.1 ha);exact h1.set (hs.keep ⟨hp,tree_data (hg _ (by omega)) _⟩) _
  ·exact h1.set (hs.mono (by omega)) _
 split
 ·unfold dg
  split
  ·exact h1
  simp only;have ht:=qS (l:=((bQ w).getD (bS (bQ w)).1.toNat default).log) (ep:=(bS (bQ w)).2.1) [0,1,2] w.resign [];generalize bI _ _ _ _ _=R at ht ⊢;have hR:cf R.1.cl (n+1):=by rw[ht];exact h1
  split
  ·exact hR
  ·exact cf.tell (w:={ R.1 with leader:=((bQ w).getD (bS (bQ w)).1.toNat default).id }) hR _
 split
 ·split
  ·exact h1
  split
  ·unfold upW
   split
   ·exact h1
   split
   ·exact h1
   ·exact h1
  ·unfold iv
   split
   ·exact h1
   split
   ·exact h1
   simp only;split
   ·exact h1
   ·exact h1
 ·exact h1
theorem cf.does{w:AWorld}{n:Nat}(h:cf w.cl n)(hg:∀ j,j<3→aS (w.s j).tree=true)(d:X1):cf (doW w d).1.cl (n+1):=by
 unfold doW;split
 ·exact h.mono (by omega)
 ·exact cf.act (w:={ w with deeds:=w.deeds+1 }) h hg d
theorem cf.start:cf je.cl 0:=fun c hc=>by obtain⟨i,_,rfl⟩:=SV.1 hc;exact fC.nil 0
def dO(w:AWorld)(n:Nat):Prop:=(∃ g es K,X6 w g es K n)∧cJ w∧cf w.cl n
theorem dO.start:dO je 0:=⟨⟨_,_,_,X6.start⟩,cJ.start,cf.start⟩
theorem dO.does{w:AWorld}{n:Nat}(h:dO w n)(hn:n<1000)(d:X1):dO (doW w d).1 (n+1):=by obtain⟨⟨g,es,K,h1⟩,h2,h3⟩:=h;exact⟨h1.does hn d,h2.does d,h3.does (fun j hj=>(h1.trees hj).2.2.2) d⟩
theorem dO.server{w:AWorld}{n:Nat}(h:dO w n)(hn:n<1000){j:Nat}(hj:j<3):(w.s j).wf∧okT (w.s j).tree∧aS (w.s j).tree=true∧(∀ x,x∈(w.s j).peer.log→x.wf∧x.path.length≤200)∧fK (w.s j).watches:=by obtain⟨⟨g,es,K,h1⟩,h2,_⟩:=h;have hE:=h1.pr.E0 j hj;obtain⟨a,b,c,d⟩:=(h1.sv j hj).wf hj (h1.small j hj) (by omega) ⟨hE.1,hE.2⟩ (h2 j);exact⟨a,b,c,d,h2 j⟩
theorem dO.client{w:AWorld}{n:Nat}(h:dO w n)(hn:n<1000){i:Nat}(hi:i<16):(w.c i).wf∧(w.c i).session=(i:Int)+1∧fC (w.c i).cache n:=by
 obtain⟨⟨g,es,K,h1⟩,_,h3⟩:=h;have hc:=h1.cli i hi;have ho:=h3.getD i
 change fC (w.c i).cache n at ho
 have hes:=h1.pr.esn;obtain⟨o1,o2,o3,_⟩:=hc.2;refine⟨⟨by rw[hc.1];exact cY (by omega) (by omega),cY o1 (by omega),⟨by have:=ho.2.1;omega,fun e he=>?_⟩⟩,hc.1,ho⟩
 have:=ho.2.2 e he;exact⟨by unfold okS;omega,by unfold okS;omega,Yj⟩
theorem BC:∀(X:List ATxn) (p:CSt),(jm X p).1.n.length+(jm X p).1.w.length≤p.n.length+p.w.length
 |[],p=>RP _
 | x::X,p=>by
   rw[jm];split
   ·exact R8 (BC X _) (qY _ p x)
   ·exact RP _
theorem eX(s:XV)(n:Int):(au s n).2.1.length≤s.watches.length:=by
 unfold au;split
 ·exact RX _
 ·simp only
  split
  ·have:=BC ((s.peer.log.drop s.peer.done.toNat).take (n.toNat-s.peer.done.toNat)) ⟨s.tree,s.watches,[]⟩
   simp only[Sd,SO] at this;simp only;omega
  ·exact RX _
theorem oR{l:List ATxn}{ep:Int}:∀(r:List Nat) {w:AWorld} {ns:List XX},cJ w→(bI l ep r w ns).2.1.length≤ns.length+400*r.length
 |[],w,ns,h=>by rw[bI];simp
 | i::r,w,ns,h=>by
   rw[bI,RQ];split
   ·have:=oR (l:=l) (ep:=ep) r (ns:=ns) h;omega
   split
   ·simp only;omega
   split
   ·simp only;omega
   have hf:=(h i).sub (jD (w.s i) l ep);have hc:=eX (aG (w.s i) l ep).1 l.length;have h4:=hf.1;have hw:cJ ((w.setS i (au (aG (w.s i) l ep).1 l.length).1).setF i true):=h.set (hf.sub (commit_sub _ _)) i
   have:=oR (l:=l) (ep:=ep) r (ns:=ns++(au (aG (w.s i) l ep).1 l.length).2.1) hw;rw[RL] at this;omega
theorem sb:∀(r:List Nat) {w:AWorld} {ns:List XX},cJ w→(bj r w ns).2.1.length≤ns.length+400*r.length
 |[],w,ns,h=>by rw[bj];simp
 | i::r,w,ns,h=>by
   rw[bj,RQ];split
   ·simp only;omega
   have hc:=eX (w.s i) (w.s i).peer.log.length;have h4:=(h i).1
   have:=sb r (ns:=ns++(au (w.s i) (w.s i).peer.log.length).2.1) (h.set ((h i).sub (commit_sub (w.s i) ((w.s i).peer.log.length:Int))) i);rw[RL] at this;omega
def AX(d:X1):XY:=⟨d.request.op,d.client+1,d.request.path,d.request.data,d.request.version,d.request.flags⟩
def EQ(w:AWorld)(who:Nat)(x:ATxn)(hv:List Nat):AWorld×X2:=
 let r:=bj hv w []
 if r.2.2≠0 then(r.1,noR r.2.2) else
 let u:=dk { r.1 with done:=r.1.done++[x] } r.2.1
 (u.setC who ⟨(u.c who).session,x.zxid,(u.c who).cache⟩,⟨0,x.zxid,x.path,[],(aw (u.s u.leader.toNat).tree x.path).1.stat,r.2.1⟩)
def oX(w:AWorld)(d:X1):AWorld×X2:=
 if d.client<0∨16≤d.client then(w,noR 3) else
 if w.leader<0 then(w,noR 14) else
 if(cD (w.s w.leader.toNat).peer).2≠0 then(w,noR (cD (w.s w.leader.toNat).peer).2) else
 let p:=bA (w.s w.leader.toNat).tree (cD (w.s w.leader.toNat).peer).1 (AX d)
 if p.2≠0 then(w,noR p.2) else
 let r:=bU p.1 w.leader d.lost d.slow [0,1,2] w []
 if r.2.2≠0 then(r.1,noR r.2.2) else
 if r.2.1.length<2 then(r.1.resign,⟨16,p.1.zxid,[],[],default,[]⟩) else
 EQ r.1 d.client.toNat p.1 r.2.1
theorem LZ{w:AWorld}{who:Nat}{x:ATxn}(hv:List Nat)(hw:who<w.cl.length)(h:(w.c who).seen≤x.zxid):lP w who x hv=EQ w who x hv:=by
 unfold lP EQ;simp only;have hc:=o6 hv w [];generalize bj hv w []=R at hc ⊢;split
 ·rfl
 have hcw:((dk { R.1 with done:=R.1.done++[x] } R.2.1).c who).seen=(w.c who).seen:=by rw[uD (by show who<R.1.cl.length;rw[hc];exact hw)];show(R.1.cl.getD who default).seen=(w.cl.getD who default).seen;rw[hc]
 generalize dk { R.1 with done:=R.1.done++[x] } R.2.1=u at hcw ⊢;have hs:gv (u.c who) x.zxid=(⟨(u.c who).session,x.zxid,(u.c who).cache⟩,0):=by unfold gv;rw[RI (by omega)]
 rw[hs,RI (fun h=>h rfl)]
theorem F0{w:AWorld}{g:Nat→Gh}{es:Int}{K:List ATxn}{n:Nat}(h:X6 w g es K n)(hn:n<1000)(d:X1):dy w d=oX w d:=by
 unfold dy oX
 by_cases hcl:d.client<0∨16≤d.client
 ·rw[RJ hcl,RJ hcl]
 rw[RI hcl,RI hcl]
 by_cases hld:w.leader<0
 ·rw[RJ hld,RJ hld]
 rw[RI hld,RI hld];have hwho:d.client.toNat<16:=by omega
 have hask:kP w d=AX d:=by unfold kP AX;rw[(h.cli _ hwho).1,show((d.client.toNat:Nat):Int)=d.client by omega]
 rw[hask];have hl0:0≤w.leader:=by omega
 obtain⟨hl3,hlE⟩:=h.pr.ld0 hl0;have hli:w.leader.toNat<3:=by omega
 obtain⟨hlf,hldone⟩:=h.lead hl0;obtain⟨hlu,_⟩:=h.fol hl0 _ hli hlf;obtain⟨ee,he,hk,hlg,hep⟩:=(h.sv _ hli).2.1 hlu;obtain⟨z0,z1,z2⟩:=h.lastOk hli;obtain⟨n1,n2,n3,n4⟩:=yH (p:=(w.s w.leader.toNat).peer) (n:=n) (by omega) h.pr.es0 h.pr.esn (by rw[hep,hlE]) (by rw[hlg];exact z0) (by rw[hlg];exact z1) (by rw[hlg];exact z2);have nn:¬ (cD (w.s w.leader.toNat).peer).2≠0:=fun h=>h n1
 rw[RI nn,RI nn];simp only
 by_cases hpz:(bA (w.s w.leader.toNat).tree (cD (w.s w.leader.toNat).peer).1 (AX d)).2=0
 case neg=>
  have np:(bA (w.s w.leader.toNat).tree (cD (w.s w.leader.toNat).peer).1 (AX d)).2≠0:=hpz;rw[RJ np,RJ np]
 have np:¬ (bA (w.s w.leader.toNat).tree (cD (w.s w.leader.toNat).peer).1 (AX d)).2≠0:=fun h=>h hpz
 rw[RI np,RI np];obtain⟨p1,_⟩:=td hpz;generalize (bA (w.s w.leader.toNat).tree (cD (w.s w.leader.toNat).peer).1 (AX d)).1=x at p1 ⊢;rw[←p1] at n2 n3 n4;rw[hlg] at n4;have hseen:(w.c d.client.toNat).seen≤x.zxid:=by have ho:=(h.cli _ hwho).2;rcases ho.2.2.2 hl0 with a|a<;>omega
 have hc:=m9 (x:=x) (lead:=w.leader) (lost:=d.lost) (slow:=d.slow) [0,1,2] w [];generalize bU x w.leader d.lost d.slow [0,1,2] w []=R at hc ⊢;split
 ·rfl
 split
 ·rfl
 refine LZ _ (by rw[hc,h.cl];exact hwho) ?_;show(R.1.cl.getD _ default).seen≤_;rw[hc];exact hseen
theorem mz{x:ATxn}{lead lost slow:Int}:∀(r:List Nat) (w:AWorld) (hv:List Nat),(bU x lead lost slow r w hv).2.1.length≤hv.length+r.length
 |[],w,hv=>RP _
 | i :: r,w,hv=>by
   rw[bU,RQ];split
   ·have:=mz (x:=x) (lead:=lead) (lost:=lost) (slow:=slow) r w hv;omega
   split
   ·have:=mz (x:=x) (lead:=lead) (lost:=lost) (slow:=slow) r (w.setF i false) hv;omega
   split
   ·simp only;omega
   split
   ·have:=mz (x:=x) (lead:=lead) (lost:=lost) (slow:=slow) r (w.setS i (bg (w.s i) x (decide (lead=i)||!oM slow i)).1) (hv++[i])
    rw[RL,Sv] at this;omega
   ·have:=mz (x:=x) (lead:=lead) (lost:=lost) (slow:=slow) r (w.setS i (bg (w.s i) x (decide (lead=i)||!oM slow i)).1) hv;omega
theorem HE{w:AWorld}(hw:cJ w)(d:X1):(qD w d).2.notes.length≤1200:=by
 unfold qD;split
 ·unfold dy
  split
  ·exact RX _
  split
  ·exact RX _
  split
  ·exact RX _
  simp only;split
  ·exact RX _
  have h1:=mz (x:=(bA (w.s w.leader.toNat).tree (cD (w.s w.leader.toNat).peer).1 (kP w d)).1) (lead:=w.leader) (lost:=d.lost) (slow:=d.slow) [0,1,2] w [];have h2:=ku (x:=(bA (w.s w.leader.toNat).tree (cD (w.s w.leader.toNat).peer).1 (kP w d)).1) (lead:=w.leader) (lost:=d.lost) (slow:=d.slow) [0,1,2] (hv:=[]) hw;generalize bU _ _ _ _ _ _ _=R at h1 h2 ⊢;split
  ·exact RX _
  split
  ·exact RX _
  unfold lP;simp only;have h3:=sb R.2.1 (ns:=[]) h2;generalize bj _ _ _=Q at h3 ⊢;split
  ·exact RX _
  split
  ·exact RX _
  ·simp only[RQ,Sd] at h1 h3 ⊢
   omega
 split
 ·unfold ig
  split
  ·exact RX _
  simp only;split
  ·exact RX _
  split
  ·exact RX _
  split
  ·split
   ·exact RX _
   ·exact RX _
  ·exact RX _
 split
 ·unfold dg
  split
  ·exact RX _
  simp only;have h3:=oR (l:=((bQ w).getD (bS (bQ w)).1.toNat default).log) (ep:=(bS (bQ w)).2.1) [0,1,2] (w:=w.resign) (ns:=[]) hw;generalize bI _ _ _ _ _=R at h3 ⊢;split
  ·exact RX _
  ·simp only[RQ,Sd] at h3 ⊢
   omega
 split
 ·split
  ·exact RX _
  split
  ·unfold upW
   split
   ·exact RX _
   split
   ·exact RX _
   ·exact RX _
  ·unfold iv
   split
   ·exact RX _
   split
   ·exact RX _
   ·exact RX _
 ·exact RX _
theorem He{w:AWorld}{n:Nat}(h:dO w n)(d:X1):(doW w d).2.notes.length≤1200:=by
 have hw:=h.2.1;unfold doW;split
 ·exact RX _
 ·exact HE (w:={ w with deeds:=w.deeds+1 }) hw d
theorem qBo0:Pls [XS [1,2,3,4] (.fork 0 (XS [5,6,7,8] .done) 5 (XS [0,6,7,8] .done))]:=pls _
theorem qBo1:Pls [XS [1,2,4] (.fork 0 (XS [3,5,6,7,8,9] .done) 3 (XS [5] (.fork 0 (XS [6,7,8,9] .done) 6 (XS [0,7,8,9] .done))))]:=pls _
theorem uC:okS epN:=by unfold okS;decide
theorem F5(d:X4)(h:d.files.length*48≤140737488351232)(hw:∀ f,f∈d.files→f.wf):ab prog [] 38 [d.av] (ret (I (gC d.files))):=by
 have hr:=IC d epN h hw;have hz:=It (readD d.files epN).1 (by have:=ki (l:=d.files) epN;unfold okS;omega);unfold gC;generalize readD d.files epN=q at hr hz ⊢;obtain⟨s,e⟩:=q;simp only at hr hz ⊢;generalize dw s=r at hz ⊢;obtain⟨z,f⟩:=r;simp only at hz ⊢;simp only[epN] at hr;have he:=sL z;generalize epZ z=ep at he ⊢;refine zJ func38 ntmps38 results38 ?_;simp only[go_sem]
 (refine zW qw (z3 hr hz he) Yj (z3 ?_ ?_ ?_)<;>(repeat with_reducible intro hc))
 all_goals first
  |(rw[RJ (by assumption)];exact zEf trivial;done)
  |(rw[RI (by omega),RJ (by assumption)];exact zEf trivial;done)
  |(rw[RI (by omega),RI (by omega)];exact zEf trivial;done)
theorem GT{s:List UInt8}(h:(dw s).2≠0):(dw s).1=0:=by
 unfold dw at h ⊢;split at h
 ·rename_i hc
  rw[RJ hc];unfold mkZ at h ⊢;split at h
  ·rename_i hb;rw[RJ hb]
  ·exact absurd rfl h
 ·rename_i hc;rw[RI hc]
theorem Gn(s:List UInt8):okI (dw s).1:=by
 unfold dw;split
 ·unfold mkZ
  split
  ·exact⟨by decide,by decide⟩
  ·rename_i hb;unfold me at hb;simp only;constructor<;>omega
 ·exact⟨by decide,by decide⟩
theorem wa(d:X4)(h:d.files.length*48≤140737488351232)(hw:∀ f,f∈d.files→f.wf):ab prog [] 89 [d.av] (ret (I (gC d.files))):=by
 have hr:=tJ d epN h hw;have hz:=By (readD d.files epN).1 (by have:=ki (l:=d.files) epN;unfold okS;omega);have hze:=@GT (readD d.files epN).1;have he:=ref_epoch_c (dw (readD d.files epN).1).1 (Gn _);unfold gC;generalize readD d.files epN=q at hr hz hze he ⊢;obtain⟨s,e⟩:=q;simp only at hr hz hze he ⊢;generalize dw s=r at hz hze he ⊢;obtain⟨z,f⟩:=r;simp only at hz hze he ⊢;simp only[epN] at hr
 have hq:(if f≠0 then 0 else epZ z)=epZ z:=by
  split
  ·rw[hze (by assumption)];rfl
  ·rfl
 rw[hq];generalize epZ z=ep at he ⊢;refine zJ func89 ntmps89 results89 ?_;simp only[go_sem]
 (refine zW qw (z3 hr hz he) Yj (z2 ?_ ?_)<;>(repeat with_reducible intro hc))
 all_goals first
  |(rw[RJ (by assumption)];exact zEf trivial;done)
  |(rw[RI (by omega)];exact zEf trivial;done)
theorem Do{l:List AFile}{key:List UInt8}(h:∀ f,f∈l→f.wf):∀ f,f∈(bn l key).1.files→f.wf:=by
 intro f hf;unfold bn at hf;split at hf
 ·cases hf
 ·split at hf
  ·exact h f (TM hf)
  ·cases hf
def jN(l:List AFile):List AFile:=if(bn l epN).2=0 then(bn l epN).1.files else l
theorem zw{l:List AFile}(h:l.length*48≤140737488351232)(hw:∀ f,f∈l→f.wf):(jN l).length*48≤140737488351232∧∀ f,f∈jN l→f.wf:=by
 unfold jN;split
 ·exact⟨FB h,Do hw⟩
 ·exact⟨h,hw⟩
theorem yR(l:List AFile)(ep:Int)(h:(mkZ ep 0).2=0):ba l ep=if(aD (jN l) epN (fu (mkZ ep 0).1)).2≠0 then(default,(aD (jN l) epN (fu (mkZ ep 0).1)).2) else bo (aD (jN l) epN (fu (mkZ ep 0).1)).1.files epN lT:=by unfold ba;rw[RI (fun hh=>hh h)];rfl
theorem Bi{ep:Int}(h:(mkZ ep 0).2=0):bd (mkZ ep 0).1:=by
 unfold mkZ at h ⊢;split at h
 ·cases h
 ·rename_i hb
  rw[RI hb];unfold me at hb;unfold bd;simp only;omega
theorem A2{z:Int}(h:bd z):okS (fu z):=by have:=xY h;unfold okS;omega
theorem Cw(d:X4)(ep:Int)(h:d.files.length*48≤140737488351232)(hw:∀ f,f∈d.files→f.wf):ab prog [] 184 [d.av,I ep] (ret (.tup [(ba d.files ep).1.av,I (ba d.files ep).2])):=by
 have hmk:=D0 ep 0
 by_cases hm:(mkZ ep 0).2=0
 case neg=>
  have e:ba d.files ep=(default,(mkZ ep 0).2):=by unfold ba;rw[RJ hm]
  rw[e];generalize mkZ ep 0=m at hm hmk ⊢;refine zJ func184 ntmps184 results184 ?_;simp only[go_sem]
  (refine zW qw (z1 hmk) @two.eq_1 (z1 ?_)<;>(repeat with_reducible intro hc))
  all_goals first|(exfalso;exact absurd (by assumption) hm)|(exfalso;exact absurd hm (by assumption))|skip
  all_goals exact zEe dfl
 rw[yR _ _ hm];have hg:=Bi hm;have ht:=HH (mkZ ep 0).1;rw[sw,RJ hg] at ht;have hrm:=JC d epN h hw;obtain⟨l1,l2⟩:=zw h hw;have hwr:=zb ⟨jN d.files⟩ epN (fu (mkZ ep 0).1) (A2 hg) uC l1 l2;have hsy:=L5 (aD (jN d.files) epN (fu (mkZ ep 0).1)).1 epN hI (cM uC l2);have hls:jN d.files=if(bn d.files epN).2=0 then(bn d.files epN).1.files else d.files:=rfl
 generalize mkZ ep 0=m at hm hmk ht hwr hsy ⊢;obtain⟨z,e0⟩:=m;simp only at hm hmk ht hwr hsy ⊢;subst hm;generalize fu z=s at ht hwr hsy ⊢;generalize jN d.files=L at hwr hsy hls ⊢;generalize aD L epN s=Q at hwr hsy ⊢;obtain⟨wd,we⟩:=Q;simp only at hwr hsy ⊢;generalize bo wd.files epN lT=R at hsy ⊢;obtain⟨sd,se⟩:=R;simp only at hsy ⊢;generalize bn d.files epN=M at hrm hls;obtain⟨rd,re⟩:=M;simp only at hrm hls;simp only[epN] at hrm hwr hsy
 by_cases hre:re=0
 ·subst hre
  rw[RJ rfl] at hls;subst hls;refine zJ func184 ntmps184 results184 ?_;simp only[go_sem]
  (repeat' first
|(with_reducible refine AR.f ?_)
|(with_reducible refine AWP.cond rfl ?_ ?_<;>intro hc<;>(try simp only[hcs,R1,Sa,Sb] at hc))
|((first|((first|(with_reducible first|refine zR ?_));intro K hK)|((first|refine zA hmk ?_ ?_ ?_ ?_ ?_|refine zA ht ?_ ?_ ?_ ?_ ?_|refine zA hrm ?_ ?_ ?_ ?_ ?_|refine zA hwr ?_ ?_ ?_ ?_ ?_|refine zA hsy ?_ ?_ ?_ ?_ ?_);(focus exact rfl);(focus exact rfl);iterate 2 (focus((try simp(disch:=omega) only[go_sem,aa,two])<;>(try omega)<;>fail)))|((first|refine zN hrm rfl ?_ ?_|refine zN hwr rfl ?_ ?_|refine zN hsy rfl ?_ ?_|refine zX hmk rfl ?_ ?_|refine zX ht rfl ?_ ?_|refine zX hrm rfl ?_ ?_|refine zY hrm ?_ ?_|refine zX hwr rfl ?_ ?_|refine zY hwr ?_ ?_|refine zX hsy rfl ?_ ?_|refine zY hsy ?_ ?_);(focus((try simp(disch:=omega) only[go_sem,aa,two])<;>(try omega)<;>fail))))<;>(try simp(disch:=omega) only[go_sem,aa,two])<;>(repeat' with_reducible refine Su ?_ ?_)<;>(try(with_reducible refine hK _ ?_;clear hK K)))
|omega)
  all_goals first
   |(rw[RJ (by assumption)];exact zEf dfl;done)
   |(rw[RI (by omega)];exact zEf trivial;done)
 ·rw[RI hre] at hls
  subst hls;refine zJ func184 ntmps184 results184 ?_;simp only[go_sem]
  (repeat' first
|(with_reducible refine AR.f ?_)
|(with_reducible refine AWP.cond rfl ?_ ?_<;>intro hc<;>(try simp only[hcs,R1,Sa,Sb] at hc))
|((first|((first|(with_reducible first|refine zR ?_));intro K hK)|((first|refine zA hmk ?_ ?_ ?_ ?_ ?_|refine zA ht ?_ ?_ ?_ ?_ ?_|refine zA hrm ?_ ?_ ?_ ?_ ?_|refine zA hwr ?_ ?_ ?_ ?_ ?_|refine zA hsy ?_ ?_ ?_ ?_ ?_);(focus exact rfl);(focus exact rfl);iterate 2 (focus((try simp(disch:=omega) only[go_sem,aa,two])<;>(try omega)<;>fail)))|((first|refine zN hrm rfl ?_ ?_|refine zN hwr rfl ?_ ?_|refine zN hsy rfl ?_ ?_|refine zX hmk rfl ?_ ?_|refine zX ht rfl ?_ ?_|refine zX hrm rfl ?_ ?_|refine zY hrm ?_ ?_|refine zX hwr rfl ?_ ?_|refine zY hwr ?_ ?_|refine zX hsy rfl ?_ ?_|refine zY hsy ?_ ?_);(focus((try simp(disch:=omega) only[go_sem,aa,two])<;>(try omega)<;>fail))))<;>(try simp(disch:=omega) only[go_sem,aa,two])<;>(repeat' with_reducible refine Su ?_ ?_)<;>(try(with_reducible refine hK _ ?_;clear hK K)))
|omega)
  all_goals first|(exfalso;exact absurd (by assumption) hre)|skip
  all_goals first
   |(rw[RJ (by assumption)];exact zEf dfl;done)
   |(rw[RI (by omega)];exact zEf trivial;done)
theorem tL(d:X4)(ep:Int)(h:d.files.length*48≤140737488351232)(hw:∀ f,f∈d.files→f.wf):ab prog [] 155 [d.av,I ep] (ret (.tup [(ba d.files ep).1.av,I (ba d.files ep).2])):=by
 have hmk:=lh ep 0
 by_cases hm:(mkZ ep 0).2=0
 case neg=>
  have e:ba d.files ep=(default,(mkZ ep 0).2):=by unfold ba;rw[RJ hm]
  rw[e];generalize mkZ ep 0=m at hm hmk ⊢;refine zJ func155 ntmps155 results155 ?_;simp only[go_sem]
  (refine zW qw (z1 hmk) @two.eq_1 (z1 ?_)<;>(repeat with_reducible intro hc))
  all_goals first|(exfalso;exact absurd (by assumption) hm)|(exfalso;exact absurd hm (by assumption))|skip
  all_goals exact zEe dfl
 rw[yR _ _ hm];have hg:=Bi hm;have ht:=zU (mkZ ep 0).1 (by unfold bd at hg;unfold okI;omega);rw[sw,RJ hg] at ht;have hrm:=yX d epN h hw;obtain⟨l1,l2⟩:=zw h hw;have hwr:=mo ⟨jN d.files⟩ epN (fu (mkZ ep 0).1) (A2 hg) uC l1 l2;have hsy:=tN (aD (jN d.files) epN (fu (mkZ ep 0).1)).1 epN hI (cM uC l2);have hls:jN d.files=if(bn d.files epN).2=0 then(bn d.files epN).1.files else d.files:=rfl
 generalize mkZ ep 0=m at hm hmk ht hwr hsy ⊢;obtain⟨z,e0⟩:=m;simp only at hm hmk ht hwr hsy ⊢;subst hm;generalize fu z=s at ht hwr hsy ⊢;generalize jN d.files=L at hwr hsy hls ⊢;generalize aD L epN s=Q at hwr hsy ⊢;obtain⟨wd,we⟩:=Q;simp only at hwr hsy ⊢;generalize bo wd.files epN lT=R at hsy ⊢;obtain⟨sd,se⟩:=R;simp only at hsy ⊢;generalize bn d.files epN=M at hrm hls;obtain⟨rd,re⟩:=M;simp only at hrm hls;simp only[epN] at hrm hwr hsy
 by_cases hre:re=0
 ·subst hre
  rw[RJ rfl] at hls;subst hls;refine zJ func155 ntmps155 results155 ?_;simp only[go_sem]
  (repeat' first
|(with_reducible refine AR.f ?_)
|(with_reducible refine AWP.cond rfl ?_ ?_<;>intro hc<;>(try simp only[hcs,R1,Sa,Sb] at hc))
|((first|((first|(with_reducible first|refine zR ?_));intro K hK)|((first|refine zA hmk ?_ ?_ ?_ ?_ ?_|refine zA ht ?_ ?_ ?_ ?_ ?_|refine zA hrm ?_ ?_ ?_ ?_ ?_|refine zA hwr ?_ ?_ ?_ ?_ ?_|refine zA hsy ?_ ?_ ?_ ?_ ?_);(focus exact rfl);(focus exact rfl);iterate 2 (focus((try simp(disch:=omega) only[go_sem,aa,two])<;>(try omega)<;>fail)))|((first|refine zN hrm rfl ?_ ?_|refine zN hwr rfl ?_ ?_|refine zN hsy rfl ?_ ?_|refine zX hmk rfl ?_ ?_|refine zX ht rfl ?_ ?_|refine zX hrm rfl ?_ ?_|refine zY hrm ?_ ?_|refine zX hwr rfl ?_ ?_|refine zY hwr ?_ ?_|refine zX hsy rfl ?_ ?_|refine zY hsy ?_ ?_);(focus((try simp(disch:=omega) only[go_sem,aa,two])<;>(try omega)<;>fail))))<;>(try simp(disch:=omega) only[go_sem,aa,two])<;>(repeat' with_reducible refine Su ?_ ?_)<;>(try(with_reducible refine hK _ ?_;clear hK K)))
|omega)
  all_goals first
   |(rw[RJ (by assumption)];exact zEf dfl;done)
   |(rw[RI (by omega)];exact zEf trivial;done)
 ·rw[RI hre] at hls
  subst hls;refine zJ func155 ntmps155 results155 ?_;simp only[go_sem]
  (repeat' first
|(with_reducible refine AR.f ?_)
|(with_reducible refine AWP.cond rfl ?_ ?_<;>intro hc<;>(try simp only[hcs,R1,Sa,Sb] at hc))
|((first|((first|(with_reducible first|refine zR ?_));intro K hK)|((first|refine zA hmk ?_ ?_ ?_ ?_ ?_|refine zA ht ?_ ?_ ?_ ?_ ?_|refine zA hrm ?_ ?_ ?_ ?_ ?_|refine zA hwr ?_ ?_ ?_ ?_ ?_|refine zA hsy ?_ ?_ ?_ ?_ ?_);(focus exact rfl);(focus exact rfl);iterate 2 (focus((try simp(disch:=omega) only[go_sem,aa,two])<;>(try omega)<;>fail)))|((first|refine zN hrm rfl ?_ ?_|refine zN hwr rfl ?_ ?_|refine zN hsy rfl ?_ ?_|refine zX hmk rfl ?_ ?_|refine zX ht rfl ?_ ?_|refine zX hrm rfl ?_ ?_|refine zY hrm ?_ ?_|refine zX hwr rfl ?_ ?_|refine zY hwr ?_ ?_|refine zX hsy rfl ?_ ?_|refine zY hsy ?_ ?_);(focus((try simp(disch:=omega) only[go_sem,aa,two])<;>(try omega)<;>fail))))<;>(try simp(disch:=omega) only[go_sem,aa,two])<;>(repeat' with_reducible refine Su ?_ ?_)<;>(try(with_reducible refine hK _ ?_;clear hK K)))
|omega)
  all_goals first|(exfalso;exact absurd (by assumption) hre)|skip
  all_goals first
   |(rw[RJ (by assumption)];exact zEf dfl;done)
   |(rw[RI (by omega)];exact zEf trivial;done)
theorem JB(id:Int)(d:X4)(h:d.files.length*48≤140737488351232)(hw:∀ f,f∈d.files→f.wf):ab prog [] 53 [I id,d.av] (ret (.tup [(cK id d.files).1.av,I (cK id d.files).2])):=by
 have he:=F5 d h hw;have hr:=qU d h hw;unfold cK;generalize gC d.files=ep at he ⊢;generalize recoverD d.files=R at hr ⊢;obtain⟨l,d2,e⟩:=R;simp only at hr ⊢;refine zJ func53 ntmps53 results53 ?_;simp only[go_sem]
 (refine zW qw (z4 qBo0 he hr Oi) Yj (z4 ?_ ?_ ?_ ?_)<;>(repeat with_reducible intro hc))
 all_goals first
  |(rw[RJ (by omega)];exact zEf dfl;done)
  |(rw[RI (by omega),RJ (by omega)];exact zEf dfl;done)
  |(rw[RI (by omega),RI (by omega)];exact zEf @t00.eq_1;done)
theorem tj(id:Int)(d:X4)(h:d.files.length*48≤140737488351232)(hw:∀ f,f∈d.files→f.wf):ab prog [] 46 [I id,d.av] (ret (.tup [(cK id d.files).1.av,I (cK id d.files).2])):=by
 have he:=wa d h hw;have hr:=jW d h hw;unfold cK;generalize gC d.files=ep at he ⊢;generalize recoverD d.files=R at hr ⊢;obtain⟨l,d2,e⟩:=R;simp only at hr ⊢;refine zJ func46 ntmps46 results46 ?_;simp only[go_sem]
 (refine zW qw (z4 qBo1 he hr xf) Yj (zc ?_ (z4 ?_ ?_ ?_ ?_))<;>(repeat with_reducible intro hc))
 all_goals first
  |(rw[RJ (by omega)];exact zEf dfl;done)
  |(rw[RI (by omega),RJ (by omega)];exact zEf dfl;done)
  |(rw[RI (by omega),RI (by omega)];exact zEf @t00.eq_1;done)
theorem jX(l:List AFile)(ep:Int):(ba l ep).1.files.length*48≤140737488351232:=by
 by_cases hm:(mkZ ep 0).2=0
 ·rw[yR _ _ hm]
  split
  ·exact(by decide:([]:List AFile).length*48≤140737488351232)
  ·exact xr hI
 ·have e:ba l ep=(default,(mkZ ep 0).2):=by unfold ba;rw[RJ hm]
  rw[e];exact(by decide:([]:List AFile).length*48≤140737488351232)
theorem Q9:Pls [XS [0,1,2,3,4,5,6,7,8,9,10,11,12,13,14] .done]:=pls _
theorem oo:∀(a b:List ATxn) (k:Nat),(∀ j,j<k→(a.getD j default).zxid=(b.getD j default).zxid)→k≤a.length→k≤b.length→(k<a.length→k<b.length→(a.getD k default).zxid≠(b.getD k default).zxid)→bp a b=k
 |[],b,k,_,ha,_,_=>by simp at ha;subst ha;unfold bp;rfl
 |x::a,[],k,_,_,hb,_=>by simp at hb;subst hb;unfold bp;rfl
 | x::a,y::b,0,_,_,_,hs=>by
   have h0:=hs (by simp) (by simp);simp only[WT] at h0;unfold bp;rw[RI h0]
 | x::a,y::b,k+1,h,ha,hb,hs=>by
   have h0:=h 0 (by omega);simp only[WT] at h0;unfold bp;rw[RJ h0];rw[oo a b k (fun j hj=>by simpa using h (j+1) (by omega)) (by simpa using ha) (by simpa using hb) (fun h1 h2=>by simpa using hs (by simpa using h1) (by simpa using h2))]
theorem Cg{l:List AFile}{key:List UInt8}(hw:∀ f,f∈l→f.wf):∀ f,f∈(bo l key lT).1.files→f.wf:=by
 intro f hf
 by_cases hg:bF l=true
 ·by_cases hm:key∈l.map AFile.name
  ·rw[fW hg hm rfl] at hf
   have hk:=((iN.1 hg).2 _ (dC hg hm)).1.2;rcases Td hf with h|h
   ·exact hw f h
   ·subst h
    obtain⟨g1,_,_,_⟩:=eL hw (place (l.map AFile.name) key);exact⟨g1,by show okS (_++_);unfold okS;rw[RL];omega,by show okS [];unfold okS;decide⟩
  ·rw[hZ hg hm] at hf;cases hf
 ·rw[jw hg] at hf;cases hf
theorem vv{l:List AFile}{z:Int}(hw:∀ f,f∈l→f.wf):∀ f,f∈(keepD l z).1.files→f.wf:=by
 intro f hf
 by_cases h:(recoverD l).2.2=0
 ·have o:=jh h
  rw[pH h] at hf;rcases Td hf with h1|h1
  ·exact o.wf hw f h1
  ·subst h1
   have hl:(encs (keepL (recoverD l).1 z)).length≤1048576:=R8 (mh _ _) o.len;exact⟨gA,by show okS (encs (keepL (recoverD l).1 z));unfold okS;omega,by show okS [];unfold okS;decide⟩
 ·rw[y6 h] at hf;cases hf
theorem lb{l:List AFile}{ep:Int}(h:l.length*48≤140737488351232)(hw:∀ f,f∈l→f.wf):∀ f,f∈(ba l ep).1.files→f.wf:=by
 by_cases hm:(mkZ ep 0).2=0
 ·rw[yR _ _ hm]
  split
  ·intro f hf;cases hf
  ·exact Cg (cM uC (zw h hw).2)
 ·have e:ba l ep=(default,(mkZ ep 0).2):=by unfold ba;rw[RJ hm]
  rw[e];intro f hf;cases hf
theorem C5{l:List AFile}{t:ATxn}{safe:Bool}(hw:∀ f,f∈l→f.wf):∀ f,f∈(cI l t safe).1.files→f.wf:=by
 unfold cI;split
 ·intro f hf;cases hf
 ·split
  ·exact cM gA hw
  ·exact Cg (cM gA hw)
theorem jK:(default:XV).wf:=
 ⟨Yj,⟨by decide,fun _ h=>by cases h⟩,⟨⟨by decide,by decide⟩,⟨by decide,by decide⟩,⟨by decide,fun _ h=>by cases h⟩,⟨by decide,by decide⟩⟩,⟨⟨by decide,by decide⟩,⟨by decide,fun _ h=>by cases h⟩,⟨by decide,fun _ h=>by cases h⟩⟩,⟨by decide,fun _ h=>by cases h⟩⟩
theorem AS{s:XV}{x:ATxn}{safe:Bool}(hw:s.wf)(hx:x.wf)(hl:s.peer.log.length≤1048576):(bg s x safe).1.wf:=by
 obtain⟨_,h1,h2,h3,h4⟩:=hw;unfold bg;split
 ·exact jK
 split
 ·refine⟨Yj,⟨FI,C5 h1.2⟩,⟨h2.1,h2.2.1,⟨?_,fun y hy=>?_⟩,h2.2.2.2⟩,h3,h4⟩
  ·show(s.peer.log++[x]).length*72≤_;rw[RL,Sv];omega
  ·rcases Sp.1 hy with hy|hy
   ·exact h2.2.2.1.2 y hy
   ·rw[S5.1 hy];exact hx
 ·exact jK
theorem B2{s:XV}{x:ATxn}{safe:Bool}:(bg s x safe).1.peer.log.length≤s.peer.log.length+1:=by
 unfold bg;split
 ·exact RX _
 split
 ·show(s.peer.log++[x]).length≤_;rw[RL,Sv];exact RP _
 ·exact RX _
theorem uQ(l:List ATxn)(k:Nat)(h:k<l.length):l.drop k=l.getD k default::l.drop (k+1):=by rw[S7 h,RG,RH h];rfl
structure GS (s:XV):Prop where
 w:s.wf
 t:okT s.tree
 p:∀ x,x∈s.peer.log→x.path.length≤1048576
theorem eU:GS default:=⟨jK,⟨jK.2.2.2.1,fun _ h=>by cases h⟩,fun _ h=>by cases h⟩
theorem EL{s:XV}{x:ATxn}{safe:Bool}(h:GS s)(hx:x.wf)(hp:x.path.length≤1048576)(hl:s.peer.log.length≤1048576):GS (bg s x safe).1:=by
 refine⟨AS h.w hx hl,?_,?_⟩
 ·unfold bg
  split
  ·exact eU.t
  split
  ·exact h.t
  ·exact eU.t
 ·unfold bg
  split
  ·exact eU.p
  split
  ·intro y hy
   rcases Sp.1 hy with hy|hy
   ·exact h.p y hy
   ·rw[S5.1 hy];exact hp
  ·exact eU.p
theorem AL:∀(r:List ATxn) {s:XV},GS s→(∀ x,x∈r→x.wf∧x.path.length≤1048576)→s.peer.log.length+r.length≤1048576→GS (eS s r).1
 |[],s,h,_,_=>h
 | x :: r,s,h,hr,hl=>by
   rw[RQ] at hl;rw[eS];split
   ·have:=B2 (s:=s) (x:=x) (safe:=true)
    obtain⟨a,b⟩:=hr x (SF ..);exact AL r (EL h a b (by omega)) (fun y hy=>hr y (Si _ hy)) (by omega)
   ·exact eU
def PB(s:XV)(l:List ATxn)(ep:Int)(k:Nat):XV×Int:=
 if(k:Int)<s.peer.done then(default,13) else
 if(keepD s.disk.files (ef l k)).2≠0 then(default,(keepD s.disk.files (ef l k)).2) else
 if(ba (keepD s.disk.files (ef l k)).1.files ep).2≠0 then(default,(ba (keepD s.disk.files (ef l k)).1.files ep).2) else
 eS ⟨s.up,(ba (keepD s.disk.files (ef l k)).1.files ep).1,⟨s.peer.id,ep,s.peer.log.take k,s.peer.done⟩,s.tree,s.watches⟩ (l.drop k)
theorem Ej(s:XV)(l:List ATxn)(ep:Int):aG s l ep=PB s l ep (bp l s.peer.log):=rfl
theorem Gr{x:ATxn}{r:List ATxn}{s:XV}(h:(bg s x true).2=0):eS s (x::r)=eS (bg s x true).1 r:=by rw[eS,RJ h]
theorem Hy{x:ATxn}{r:List ATxn}{s:XV}(h:¬ (bg s x true).2=0):eS s (x::r)=(default,(bg s x true).2):=by rw[eS,RI h]
structure Yd (X:List ATxn) (F:XV×Int) (v:Nat×XV):Prop where
 k:v.1≤X.length
 f:eS v.2 (X.drop v.1)=F
 w:v.2.wf
 l:v.2.peer.log.length+(X.length-v.1)≤1048576
theorem Yd.next{X:List ATxn}{F:XV×Int}{v:Nat×XV}(h:Yd X F v)(hk:v.1<X.length)(hX:∀ x,x∈X→x.wf)(h0:(bg v.2 (X.getD v.1 default) true).2=0):Yd X F (v.1+1,(bg v.2 (X.getD v.1 default) true).1):=by
 obtain⟨h1,h2,h3,h4⟩:=h;have hx:=hX _ (bu X default hk);have hd:=uQ X v.1 hk;rw[hd,Gr h0] at h2
 have:=B2 (s:=v.2) (x:=X.getD v.1 default) (safe:=true);exact⟨hk,h2,AS h3 hx (by omega),by simp only;omega⟩
theorem Yd.stop{X:List ATxn}{F:XV×Int}{v:Nat×XV}(h:Yd X F v)(hk:v.1<X.length)(h0:¬ (bg v.2 (X.getD v.1 default) true).2=0):F=(default,(bg v.2 (X.getD v.1 default) true).2):=by have h2:=h.f;rw[uQ X v.1 hk,Hy h0] at h2;exact h2.symm
theorem Yd.end{X:List ATxn}{F:XV×Int}{v:Nat×XV}(h:Yd X F v)(hk:¬ v.1<X.length):F=(v.2,0):=by have h2:=h.f;rw[Ww (by have:=h.k;omega)] at h2;exact h2.symm
theorem yM{s:XV}{d:X4}{ep:Int}{k:Nat}(hw:s.wf)(hd:d.wf)(he:okI ep):XV.wf ⟨s.up,d,⟨s.peer.id,ep,s.peer.log.take k,s.peer.done⟩,s.tree,s.watches⟩:=by
 obtain⟨_,h1,h2,h3,h4⟩:=hw
 have:=h2.2.2.1.1;exact⟨Yj,hd,⟨h2.1,he,⟨by show(s.peer.log.take k).length*72≤_;rw[RV];omega,fun y hy=>h2.2.2.1.2 y (St hy)⟩,h2.2.2.2⟩,h3,h4⟩
theorem ye{s:XV}{l:List ATxn}{ep:Int}(h:GS s)(hl:∀ x,x∈l→x.wf∧x.path.length≤1048576)(hll:l.length≤1048576)(he:okI ep):GS (aG s l ep).1:=by
 have hk:=jq l s.peer.log;unfold aG;split
 ·exact eU
 split
 ·exact eU
 split
 ·exact eU
 ·obtain⟨_,h1,h2,h3,h4⟩:=h.w
  refine AL _ ⟨yM h.w ⟨jX _ _,lb yz (vv h1.2)⟩ he,h.t,fun x hx=>h.p x (St hx)⟩ (fun x hx=>hl x (SJ hx)) ?_;show(s.peer.log.take _).length+_≤_;rw[RV,RZ];omega
theorem H6(s:XV)(l:List ATxn)(ep:Int)(hw:s.wf)(hlw:∀ x,x∈l→x.wf)(hll:l.length≤1048576)(he:okI ep):ab prog [] 114 [s.av,.d (.sl 7 (l.map ATxn.row)),I ep] (ret (.tup [(aG s l ep).1.av,I (aG s l ep).2])):=by
 have hw0:=hw;obtain⟨_,h1,h2,h3,h4⟩:=hw;have hl7:=h2.2.2.1.1;have hok0:=h2.2.2.2;rw[Ej];generalize hC:bp l s.peer.log=C;refine zJ func114 ntmps114 results114 ?_;simp only[go_sem];refine zW qw zn Yj (z1 ?_);refine W9 (ι:=Nat) (fun k=>k≤l.length∧k≤s.peer.log.length∧∀ j,j<k→(l.getD j default).zxid=(s.peer.log.getD j default).zxid) (fun k=>l.length-k) [1,2,3,6] (fun k=>[(8,I k)]) (fun k=>[.cells [B s.up,.d (.sl 3 (s.disk.files.map AFile.row)),I s.peer.id,I s.peer.epoch,.d (.sl 7 (s.peer.log.map ATxn.row)),I s.peer.done,I s.tree.zxid,.d (.sl 9 (s.tree.nodes.map XU.row)),.d (.sl 1 (s.tree.sessions.map aY)),.d (.sl 3 (s.watches.map AWatch.row))],.cells [B false,.d (.sc (.slice none 0 0)),I 0,I 0,.d (.sc (.slice none 0 0)),I 0,I 0,.d (.sc (.slice none 0 0)),.d (.sc (.slice none 0 0)),.d (.sc (.slice none 0 0))]]) 0 ?_ ?_ ?_
 ·exact⟨RX _,RX _,fun j hj=>by omega⟩
 ·simp only[go_sem];exact zSm Yj
 intro k ⟨hk1,hk2,hk3⟩;simp only[go_sem]
 by_cases hgo:k<l.length∧k<s.peer.log.length∧(l.getD k default).zxid=(s.peer.log.getD k default).zxid
 ·obtain⟨g1,g2,g3⟩:=hgo
  refine zW qw zn (zx (fun z=>ATxn.rgetD l k z g1) (zx (fun z=>ATxn.rgetD s.peer.log k z g2) (zx @g3 (zx @g1 @g2)))) (z1 (fun hc=>?_))
  all_goals try exact zk1
  refine⟨k+1,⟨by omega,by omega,fun j hj=>?_⟩,by omega,?_⟩
  ·by_cases e:j=k
   ·subst e;exact g3
   ·exact hk3 j (by omega)
  ·exact zSm Yj
 have hkC:C=k:=by rw[←hC];exact oo _ _ _ hk3 hk1 hk2 fun a b c=>hgo ⟨a,b,c⟩
 subst hkC;have hkp:=O4 s.disk (ef l C) h1.1 h1.2;have kwf:=yz (l:=s.disk.files) (z:=ef l C);have kfw:=vv (z:=ef l C) h1.2;have hrm:=Cw (keepD s.disk.files (ef l C)).1 ep kwf kfw;have rwf:=jX (keepD s.disk.files (ef l C)).1.files ep;have rfw:=lb (ep:=ep) kwf kfw;have hbz:ef l C=if 0<C then(l.getD (C-1) default).zxid else -1:=rfl
 have hXe:List.take (l.length-C) (List.drop C (l.map ATxn.row))=(l.drop C).map ATxn.row:=by rw[←US];exact RK (by simp)
 have hYe:List.take C (s.peer.log.map ATxn.row)=(s.peer.log.take C).map ATxn.row:=by rw[Vb]
 have hYl:(s.peer.log.take C).length=C:=by rw[RV];omega
 have hXl:(l.drop C).length=l.length-C:=RZ;have hXw:∀ x,x∈l.drop C→x.wf:=fun x hx=>hlw x (SJ hx)
 unfold PB
 by_cases hd:(C:Int)<s.peer.done
 ·rw[RJ hd]
  refine zW qw zn Yj (z1 (fun hc hc=>?_))
  all_goals try exact zk1
  all_goals exact zEe dfl
 rw[RI hd];have hsw (d:X4) (hd:d.wf):=yM (k:=C) hw0 hd he;generalize ef l C=bz at hbz hkp hrm kwf kfw rwf rfw ⊢;generalize keepD s.disk.files bz=K at hkp hrm kwf kfw rwf rfw ⊢;obtain⟨kd,ke⟩:=K;simp only at hkp hrm kwf kfw rwf rfw ⊢;generalize ba kd.files ep=R at hrm rwf rfw ⊢;obtain⟨rd,re⟩:=R;simp only at hrm rwf rfw ⊢;have hrw:rd.wf:=⟨rwf,rfw⟩;have hsw:=hsw rd hrw;generalize hX:l.drop C=X at hXe hXl hXw ⊢;generalize hY:s.peer.log.take C=Y at hYe hYl hsw ⊢;have hYt:List.take C (Y.map ATxn.row)=Y.map ATxn.row:=RK (by simp;omega);have hmn:min C s.peer.log.length=C:=SC hk2;generalize hF:(if ke≠0 then((default:XV),ke) else if re≠0 then(default,re) else eS ⟨s.up,rd,⟨s.peer.id,ep,Y,s.peer.done⟩,s.tree,s.watches⟩ X)=F
 by_cases h0:0<C
 ·rw [RJ h0] at hbz
  subst hbz
  (refine zW qw (z2 hkp hrm) (zx (fun z=>ATxn.rgetD l (C-1) z (by omega)) (zx @hXe (zx @hYe (zx @mR (zx @Sg @hmn))))) (z3 ?_ ?_ ?_)<;>(repeat with_reducible intro hc))
  ·rw[RJ hc] at hF
   subst hF;exact zEe dfl
  ·rw[RI (by omega),RJ hc] at hF
   subst hF;exact zEe dfl
  ·rw[RI (by omega),RI (by omega)] at hF
   refine Xa (XL 0 4 rfl rfl rfl (by first|(simp;done)|(simp;omega)) (by decide) (fun j hj=>absurd hj (Vd j))) ?_;simp only[go_sem];refine W9 (ι:=Nat×XV) (fun v=>Yd X F v) (fun v=>X.length-v.1) [3,6,92,93] (fun v=>[(94,I v.1)]) (fun v=>[.cells [B v.2.up,.d (.sl 3 (v.2.disk.files.map AFile.row)),I v.2.peer.id,I v.2.peer.epoch,.d (.sl 7 (v.2.peer.log.map ATxn.row)),I v.2.peer.done,I v.2.tree.zxid,.d (.sl 9 (v.2.tree.nodes.map XU.row)),.d (.sl 1 (v.2.tree.sessions.map aY)),.d (.sl 3 (v.2.watches.map AWatch.row))],.cells [B false,.d (.sc (.slice none 0 0)),I 0,I 0,.d (.sc (.slice none 0 0)),I 0,I 0,.d (.sc (.slice none 0 0)),.d (.sc (.slice none 0 0)),.d (.sc (.slice none 0 0))]]) (0,⟨s.up,rd,⟨s.peer.id,ep,Y,s.peer.done⟩,s.tree,s.watches⟩) ?_ ?_ ?_
   ·exact⟨RX _,hF,hsw,by simp only;omega⟩
   ·simp only[go_sem];exact zFr [0,1] (zx @List.drop_zero.{0} @hYt)
   intro v hv;simp only[go_sem];have hvk:=hv.k
   by_cases hk4:v.1<X.length
   ·have hxw:=hXw _ (bu X default hk4)
    have hvl:=hv.l;have ht:=CC v.2 (X.getD v.1 default) true hv.w hxw (by omega);have hrow:∀ z,List.getD (X.map ATxn.row) v.1 z=(X.getD v.1 default).row:=fun z=>ATxn.rgetD X v.1 z hk4
    by_cases ht0:(bg v.2 (X.getD v.1 default) true).2=0
    ·have hnx:=hv.next hk4 hXw ht0
     generalize X.getD v.1 default=x at ht ht0 hnx hrow;generalize bg v.2 x true=q at ht ht0 hnx;obtain⟨q1,q2⟩:=q;simp only at ht ht0 hnx;refine zW qw (z1 ht) (zx @hrow @ATxn.row.eq_1) (z1 (fun hc hc=>?_))
     all_goals try exact zk1
     refine⟨(v.1+1,q1),hnx,by simp only;omega,?_⟩;exact zFr [0,1] Yj
    ·have hst:=hv.stop hk4 ht0
     generalize X.getD v.1 default=x at ht ht0 hst hrow;generalize bg v.2 x true=q at ht ht0 hst;obtain⟨q1,q2⟩:=q;simp only at ht ht0 hst;subst hst;refine zW qw (z1 ht) (zx @hrow @ATxn.row.eq_1) (z1 (fun hc hc=>?_))
     all_goals try exact zk1
     exact zEe dfl
   ·have hst:=hv.end hk4
    subst hst;refine zW qw zn Yj (z1 (fun hc=>?_))
    all_goals try exact zk1
    exact zEe Yj
 ·rw [RI h0] at hbz
  subst hbz
  (refine zW qw (z2 hkp hrm) (zx @hXe (zx @hYe (zx @Sg @hmn))) (z3 ?_ ?_ ?_)<;>(repeat with_reducible intro hc))
  ·rw[RJ hc] at hF
   subst hF;exact zEe dfl
  ·rw[RI (by omega),RJ hc] at hF
   subst hF;exact zEe dfl
  ·rw[RI (by omega),RI (by omega)] at hF
   refine Xa (XL 0 4 rfl rfl rfl (by first|(simp;done)|(simp;omega)) (by decide) (fun j hj=>absurd hj (Vd j))) ?_;simp only[go_sem];refine W9 (ι:=Nat×XV) (fun v=>Yd X F v) (fun v=>X.length-v.1) [3,6,92,93] (fun v=>[(94,I v.1)]) (fun v=>[.cells [B v.2.up,.d (.sl 3 (v.2.disk.files.map AFile.row)),I v.2.peer.id,I v.2.peer.epoch,.d (.sl 7 (v.2.peer.log.map ATxn.row)),I v.2.peer.done,I v.2.tree.zxid,.d (.sl 9 (v.2.tree.nodes.map XU.row)),.d (.sl 1 (v.2.tree.sessions.map aY)),.d (.sl 3 (v.2.watches.map AWatch.row))],.cells [B false,.d (.sc (.slice none 0 0)),I 0,I 0,.d (.sc (.slice none 0 0)),I 0,I 0,.d (.sc (.slice none 0 0)),.d (.sc (.slice none 0 0)),.d (.sc (.slice none 0 0))]]) (0,⟨s.up,rd,⟨s.peer.id,ep,Y,s.peer.done⟩,s.tree,s.watches⟩) ?_ ?_ ?_
   ·exact⟨RX _,hF,hsw,by simp only;omega⟩
   ·simp only[go_sem];exact zFr [0,1] (zx @List.drop_zero.{0} @hYt)
   intro v hv;simp only[go_sem];have hvk:=hv.k
   by_cases hk4:v.1<X.length
   ·have hxw:=hXw _ (bu X default hk4)
    have hvl:=hv.l;have ht:=CC v.2 (X.getD v.1 default) true hv.w hxw (by omega);have hrow:∀ z,List.getD (X.map ATxn.row) v.1 z=(X.getD v.1 default).row:=fun z=>ATxn.rgetD X v.1 z hk4
    by_cases ht0:(bg v.2 (X.getD v.1 default) true).2=0
    ·have hnx:=hv.next hk4 hXw ht0
     generalize X.getD v.1 default=x at ht ht0 hnx hrow;generalize bg v.2 x true=q at ht ht0 hnx;obtain⟨q1,q2⟩:=q;simp only at ht ht0 hnx;refine zW qw (z1 ht) (zx @hrow @ATxn.row.eq_1) (z1 (fun hc hc=>?_))
     all_goals try exact zk1
     refine⟨(v.1+1,q1),hnx,by simp only;omega,?_⟩;exact zFr [0,1] Yj
    ·have hst:=hv.stop hk4 ht0
     generalize X.getD v.1 default=x at ht ht0 hst hrow;generalize bg v.2 x true=q at ht ht0 hst;obtain⟨q1,q2⟩:=q;simp only at ht ht0 hst;subst hst;refine zW qw (z1 ht) (zx @hrow @ATxn.row.eq_1) (z1 (fun hc hc=>?_))
     all_goals try exact zk1
     exact zEe dfl
   ·have hst:=hv.end hk4
    subst hst;refine zW qw zn Yj (z1 (fun hc=>?_))
    all_goals try exact zk1
    exact zEe Yj
theorem zh(l m:List ATxn)(h1:l.length*72≤140737488351232)(h2:m.length*72≤140737488351232):ab prog [] 153 [.d (.sl 7 (l.map ATxn.row)),.d (.sl 7 (m.map ATxn.row))] (ret (I (bp l m))):=by
 generalize hC:bp l m=C;refine zJ func153 ntmps153 results153 ?_;simp only[go_sem];refine zW qw zn Yj (z1 ?_);refine W9 (ι:=Nat) (fun k=>k≤l.length∧k≤m.length∧∀ j,j<k→(l.getD j default).zxid=(m.getD j default).zxid) (fun k=>l.length-k) [0,1] (fun k=>[(5,I k)]) (fun k=>[]) 0 ?_ ?_ ?_
 ·exact⟨RX _,RX _,fun j hj=>by omega⟩
 ·simp only[go_sem];exact zSm Yj
 intro k ⟨hk1,hk2,hk3⟩;simp only[go_sem]
 by_cases hgo:k<l.length∧k<m.length∧(l.getD k default).zxid=(m.getD k default).zxid
 ·obtain⟨g1,g2,g3⟩:=hgo
  refine zW qw zn (zx (fun z=>ATxn.rgetD l k z g1) (zx (fun z=>ATxn.rgetD m k z g2) (zx @g3 (zx @g1 @g2)))) (z1 (fun hc=>?_))
  all_goals try exact zk1
  refine⟨k+1,⟨by omega,by omega,fun j hj=>?_⟩,by omega,?_⟩
  ·by_cases e:j=k
   ·subst e;exact g3
   ·exact hk3 j (by omega)
  ·exact zSm Yj
 have hkC:C=k:=by rw[←hC];exact oo _ _ _ hk3 hk1 hk2 fun a b c=>hgo ⟨a,b,c⟩
 subst hkC;refine zW qw zn Yj (z1 (fun hc=>?_))
 all_goals try exact zk1
 exact zEe Yj
theorem yV(s:XV)(l:List ATxn)(ep:Int)(hw:s.wf)(hlw:∀ x,x∈l→x.wf)(hlp:∀ x,x∈l→x.path.length≤1048576)(hll:l.length≤1048576)(he:okI ep):ab prog [] 93 [s.av,.d (.sl 7 (l.map ATxn.row)),I ep] (ret (.tup [(aG s l ep).1.av,I (aG s l ep).2])):=by
 have hw0:=hw;have hcp:=qa s hw;obtain⟨_,h1,h2,h3,h4⟩:=hw;have hl7:=h2.2.2.1.1;have hok0:=h2.2.2.2;have hcm:=zh l s.peer.log (by omega) hl7;obtain⟨hk1,hk2⟩:=jq l s.peer.log;rw[Ej];generalize bp l s.peer.log=C at hcm hk1 hk2 ⊢;have hkp:=D8 s.disk (ef l C) h1.1 h1.2;have kwf:=yz (l:=s.disk.files) (z:=ef l C);have kfw:=vv (z:=ef l C) h1.2;have hrm:=tL (keepD s.disk.files (ef l C)).1 ep kwf kfw;have rwf:=jX (keepD s.disk.files (ef l C)).1.files ep;have rfw:=lb (ep:=ep) kwf kfw;have hbz:ef l C=if 0<C then(l.getD (C-1) default).zxid else -1:=rfl
 have hXe:List.take (l.length-C) (List.drop C (l.map ATxn.row))=(l.drop C).map ATxn.row:=by rw[←US];exact RK (by simp)
 have hYe:List.take C (s.peer.log.map ATxn.row)=(s.peer.log.take C).map ATxn.row:=by rw[Vb]
 have hYl:(s.peer.log.take C).length=C:=by rw[RV];omega
 have hXl:(l.drop C).length=l.length-C:=RZ;have hXw:∀ x,x∈l.drop C→x.wf:=fun x hx=>hlw x (SJ hx)
 unfold PB
 by_cases hd:(C:Int)<s.peer.done
 ·rw[RJ hd]
  refine zJ func93 ntmps93 results93 ?_;simp only[go_sem];refine zW qw (z1 hcm) Yj (z1 (fun hc=>?_))
  all_goals try exact zk1
  all_goals exact zEe dfl
 rw[RI hd];have hsw (d:X4) (hd:d.wf):=yM (k:=C) hw0 hd he;generalize ef l C=bz at hbz hkp hrm kwf kfw rwf rfw ⊢;generalize keepD s.disk.files bz=K at hkp hrm kwf kfw rwf rfw ⊢;obtain⟨kd,ke⟩:=K;simp only at hkp hrm kwf kfw rwf rfw ⊢;generalize ba kd.files ep=R at hrm rwf rfw ⊢;obtain⟨rd,re⟩:=R;simp only at hrm rwf rfw ⊢;have hrw:rd.wf:=⟨rwf,rfw⟩;have hsw:=hsw rd hrw;generalize hX:l.drop C=X at hXe hXl hXw ⊢;generalize hY:s.peer.log.take C=Y at hYe hYl hsw ⊢;have hYt:List.take C (Y.map ATxn.row)=Y.map ATxn.row:=RK (by simp;omega);have hmn:min C s.peer.log.length=C:=SC hk2;have hXp:∀ x,x∈X→x.path.length≤1048576:=fun x hx=>hlp x (by rw[←hX] at hx;exact SJ hx)
 generalize hF:(if ke≠0 then((default:XV),ke) else if re≠0 then(default,re) else eS ⟨s.up,rd,⟨s.peer.id,ep,Y,s.peer.done⟩,s.tree,s.watches⟩ X)=F
 by_cases h0:0<C
 ·rw [RJ h0] at hbz
  subst hbz;refine zJ func93 ntmps93 results93 ?_;simp only[go_sem]
  (refine zW qw (zc Q9 (z4 hcm hkp hrm hcp)) (zx (fun z=>ATxn.rgetD l (C-1) z (by omega)) (zx @hXe (zx @hYe (zx @mR (zx @Sg @hmn))))) (z3 ?_ ?_ ?_)<;>(repeat with_reducible intro hc))
  all_goals try exact zk1
  ·rw[RJ hc] at hF
   subst hF;exact zEe dfl
  ·rw[RI (by omega),RJ hc] at hF
   subst hF;exact zEe dfl
  ·rw[RI (by omega),RI (by omega)] at hF
   refine W9 (ι:=Nat×XV) (fun v=>Yd X F v) (fun v=>X.length-v.1) [3,6,70,71] (fun v=>[(72,I v.1)]) (fun v=>[.cells [B v.2.up,.d (.sl 3 (v.2.disk.files.map AFile.row)),I v.2.peer.id,I v.2.peer.epoch,.d (.sl 7 (v.2.peer.log.map ATxn.row)),I v.2.peer.done,I v.2.tree.zxid,.d (.sl 9 (v.2.tree.nodes.map XU.row)),.d (.sl 1 (v.2.tree.sessions.map aY)),.d (.sl 3 (v.2.watches.map AWatch.row))],.cells [B false,.d (.sc (.slice none 0 0)),I 0,I 0,.d (.sc (.slice none 0 0)),I 0,I 0,.d (.sc (.slice none 0 0)),.d (.sc (.slice none 0 0)),.d (.sc (.slice none 0 0))]]) (0,⟨s.up,rd,⟨s.peer.id,ep,Y,s.peer.done⟩,s.tree,s.watches⟩) ?_ ?_ ?_
   ·exact⟨RX _,hF,hsw,by simp only;omega⟩
   ·simp only[go_sem];exact zFr [0,1] (zx @List.drop_zero.{0} (zx @hYt @hYe))
   intro v hv;simp only[go_sem];have hvk:=hv.k
   by_cases hk4:v.1<X.length
   ·have hxw:=hXw _ (bu X default hk4)
    have hvl:=hv.l;have ht:=oI v.2 (X.getD v.1 default) true hv.w hxw (hXp _ (bu X default hk4)) (by omega);have hrow:∀ z,List.getD (X.map ATxn.row) v.1 z=(X.getD v.1 default).row:=fun z=>ATxn.rgetD X v.1 z hk4
    by_cases ht0:(bg v.2 (X.getD v.1 default) true).2=0
    ·have hnx:=hv.next hk4 hXw ht0
     generalize X.getD v.1 default=x at ht ht0 hnx hrow;generalize bg v.2 x true=q at ht ht0 hnx;obtain⟨q1,q2⟩:=q;simp only at ht ht0 hnx;refine zW qw (z1 ht) (zx @hrow @ATxn.row.eq_1) (z1 (fun hc hc=>?_))
     all_goals try exact zk1
     refine⟨(v.1+1,q1),hnx,by simp only;omega,?_⟩;exact zFr [0,1] Yj
    ·have hst:=hv.stop hk4 ht0
     generalize X.getD v.1 default=x at ht ht0 hst hrow;generalize bg v.2 x true=q at ht ht0 hst;obtain⟨q1,q2⟩:=q;simp only at ht ht0 hst;subst hst;refine zW qw (z1 ht) (zx @hrow @ATxn.row.eq_1) (z1 (fun hc hc=>?_))
     all_goals try exact zk1
     exact zEe dfl
   ·have hst:=hv.end hk4
    subst hst;refine zW qw zn Yj (z1 (fun hc=>?_))
    all_goals try exact zk1
    exact zEe Yj
 ·rw [RI h0] at hbz
  subst hbz;refine zJ func93 ntmps93 results93 ?_;simp only[go_sem]
  (refine zW qw (zc Q9 (z4 hcm hkp hrm hcp)) (zx @hXe (zx @hYe (zx @Sg @hmn))) (z3 ?_ ?_ ?_)<;>(repeat with_reducible intro hc))
  all_goals try exact zk1
  ·rw[RJ hc] at hF
   subst hF;exact zEe dfl
  ·rw[RI (by omega),RJ hc] at hF
   subst hF;exact zEe dfl
  ·rw[RI (by omega),RI (by omega)] at hF
   refine W9 (ι:=Nat×XV) (fun v=>Yd X F v) (fun v=>X.length-v.1) [3,6,70,71] (fun v=>[(72,I v.1)]) (fun v=>[.cells [B v.2.up,.d (.sl 3 (v.2.disk.files.map AFile.row)),I v.2.peer.id,I v.2.peer.epoch,.d (.sl 7 (v.2.peer.log.map ATxn.row)),I v.2.peer.done,I v.2.tree.zxid,.d (.sl 9 (v.2.tree.nodes.map XU.row)),.d (.sl 1 (v.2.tree.sessions.map aY)),.d (.sl 3 (v.2.watches.map AWatch.row))],.cells [B false,.d (.sc (.slice none 0 0)),I 0,I 0,.d (.sc (.slice none 0 0)),I 0,I 0,.d (.sc (.slice none 0 0)),.d (.sc (.slice none 0 0)),.d (.sc (.slice none 0 0))]]) (0,⟨s.up,rd,⟨s.peer.id,ep,Y,s.peer.done⟩,s.tree,s.watches⟩) ?_ ?_ ?_
   ·exact⟨RX _,hF,hsw,by simp only;omega⟩
   ·simp only[go_sem];exact zFr [0,1] (zx @List.drop_zero.{0} (zx @hYt @hYe))
   intro v hv;simp only[go_sem];have hvk:=hv.k
   by_cases hk4:v.1<X.length
   ·have hxw:=hXw _ (bu X default hk4)
    have hvl:=hv.l;have ht:=oI v.2 (X.getD v.1 default) true hv.w hxw (hXp _ (bu X default hk4)) (by omega);have hrow:∀ z,List.getD (X.map ATxn.row) v.1 z=(X.getD v.1 default).row:=fun z=>ATxn.rgetD X v.1 z hk4
    by_cases ht0:(bg v.2 (X.getD v.1 default) true).2=0
    ·have hnx:=hv.next hk4 hXw ht0
     generalize X.getD v.1 default=x at ht ht0 hnx hrow;generalize bg v.2 x true=q at ht ht0 hnx;obtain⟨q1,q2⟩:=q;simp only at ht ht0 hnx;refine zW qw (z1 ht) (zx @hrow @ATxn.row.eq_1) (z1 (fun hc hc=>?_))
     all_goals try exact zk1
     refine⟨(v.1+1,q1),hnx,by simp only;omega,?_⟩;exact zFr [0,1] Yj
    ·have hst:=hv.stop hk4 ht0
     generalize X.getD v.1 default=x at ht ht0 hst hrow;generalize bg v.2 x true=q at ht ht0 hst;obtain⟨q1,q2⟩:=q;simp only at ht ht0 hst;subst hst;refine zW qw (z1 ht) (zx @hrow @ATxn.row.eq_1) (z1 (fun hc hc=>?_))
     all_goals try exact zk1
     exact zEe dfl
   ·have hst:=hv.end hk4
    subst hst;refine zW qw zn Yj (z1 (fun hc=>?_))
    all_goals try exact zk1
    exact zEe Yj
structure CW where
 s:Nat→XV
 c:Nat→X0
 leader:Int
 f:Nat→Bool
 n:Nat
 deeds:Int
namespace CW
def setS(v:CW)(i:Nat)(x:XV):CW:={ v with s:=fun j=>if j=i then x else v.s j }
def setC(v:CW)(i:Nat)(x:X0):CW:={ v with c:=fun j=>if j=i then x else v.c j }
def setF(v:CW)(i:Nat)(b:Bool):CW:={ v with f:=fun j=>if j=i then b else v.f j }
def setL(v:CW)(l:Int):CW:={ v with leader:=l }
def setD(v:CW)(d:Int):CW:={ v with deeds:=d }
def setN(v:CW)(n:Nat):CW:={ v with n:=n }
def noF(v:CW):CW:={ v with f:=fun _=>false }
end CW
def svC(s:XV):List AV:=[.d (.bool s.up),.d (.sl 3 (s.disk.files.map AFile.row)),I s.peer.id,I s.peer.epoch,.d (.sl 7 (s.peer.log.map ATxn.row)),I s.peer.done,I s.tree.zxid,.d (.sl 9 (s.tree.nodes.map XU.row)),.d (.sl 1 (s.tree.sessions.map aY)),.d (.sl 3 (s.watches.map AWatch.row))]
def clC(c:X0):List AV:=[I c.session,I c.seen,.d (.sl 3 (c.cache.map AEntry.row))]
def wC(v:CW)(k:Nat):List AV:=svC (v.s 0)++(svC (v.s 1)++(svC (v.s 2)++(clC (v.c 0)++(clC (v.c 1)++(clC (v.c 2)++(clC (v.c 3)++(clC (v.c 4)++(clC (v.c 5)++(clC (v.c 6)++(clC (v.c 7)++(clC (v.c 8)++(clC (v.c 9)++(clC (v.c 10)++(clC (v.c 11)++(clC (v.c 12)++(clC (v.c 13)++(clC (v.c 14)++(clC (v.c 15)++[I v.leader,B (v.f 0),B (v.f 1),B (v.f 2),.osl k 7 0 v.n,I v.deeds]))))))))))))))))))
theorem Py(v:CW)(k:Nat):(wC v k).length=84:=by rfl
theorem cgL(v:CW)(k:Nat):(wC v k).getD 78 .any=I v.leader:=by rfl
theorem cgDe(v:CW)(k:Nat):(wC v k).getD 83 .any=I v.deeds:=by rfl
theorem cgN(v:CW)(k:Nat):(wC v k).getD 82 .any=.osl k 7 0 v.n:=by rfl
theorem cgF(v:CW)(k i:Nat)(h:i<3):(wC v k).getD (79+i) .any=B (v.f i):=by rcases i with _|_|_|i<;>first|rfl|omega
theorem cgUp(v:CW)(k i:Nat)(h:i<3):(wC v k).getD (i*10) .any=B (v.s i).up:=by rcases i with _|_|_|i<;>first|rfl|omega
theorem PU(v:CW)(k i:Nat)(h:i<3):((wC v k).drop (i*10+1)).take 1=[.d (.sl 3 ((v.s i).disk.files.map AFile.row))]:=by rcases i with _|_|_|i<;>first|rfl|omega
theorem OQ(v:CW)(k i:Nat)(h:i<3):((wC v k).drop (i*10+2)).take 4=[I (v.s i).peer.id,I (v.s i).peer.epoch,.d (.sl 7 ((v.s i).peer.log.map ATxn.row)),I (v.s i).peer.done]:=by rcases i with _|_|_|i<;>first|rfl|omega
theorem RB(v:CW)(k i:Nat)(h:i<3):(wC v k).getD (i*10+4) .any=.d (.sl 7 ((v.s i).peer.log.map ATxn.row)):=by rcases i with _|_|_|i<;>first|rfl|omega
theorem PW(v:CW)(k i:Nat)(h:i<3):((wC v k).drop (i*10+6)).take 3=[I (v.s i).tree.zxid,.d (.sl 9 ((v.s i).tree.nodes.map XU.row)),.d (.sl 1 ((v.s i).tree.sessions.map aY))]:=by rcases i with _|_|_|i<;>first|rfl|omega
theorem cgTz(v:CW)(k i:Nat)(h:i<3):(wC v k).getD (i*10+6) .any=I (v.s i).tree.zxid:=by rcases i with _|_|_|i<;>first|rfl|omega
theorem Q7(v:CW)(k i:Nat)(h:i<3):(wC v k).getD (i*10+9) .any=.d (.sl 3 ((v.s i).watches.map AWatch.row)):=by rcases i with _|_|_|i<;>first|rfl|omega
theorem cgSv(v:CW)(k i:Nat)(h:i<3):((wC v k).drop (i*10)).take 10=[.d (.bool (v.s i).up),.d (.sl 3 ((v.s i).disk.files.map AFile.row)),I (v.s i).peer.id,I (v.s i).peer.epoch,.d (.sl 7 ((v.s i).peer.log.map ATxn.row)),I (v.s i).peer.done,I (v.s i).tree.zxid,.d (.sl 9 ((v.s i).tree.nodes.map XU.row)),.d (.sl 1 ((v.s i).tree.sessions.map aY)),.d (.sl 3 ((v.s i).watches.map AWatch.row))]:=by rcases i with _|_|_|i<;>first|rfl|omega
theorem cgCl(v:CW)(k i:Nat)(h:i<16):((wC v k).drop (30+i*3)).take 3=[I (v.c i).session,I (v.c i).seen,.d (.sl 3 ((v.c i).cache.map AEntry.row))]:=by rcases i with _|_|_|_|_|_|_|_|_|_|_|_|_|_|_|_|i<;>first|rfl|omega
theorem Rb(v:CW)(k i:Nat)(h:i<16):(wC v k).getD (30+i*3) .any=I (v.c i).session:=by rcases i with _|_|_|_|_|_|_|_|_|_|_|_|_|_|_|_|i<;>first|rfl|omega
theorem csL(v:CW)(k:Nat):∀ l:Int,(wC v k).set 78 (I l)=wC (v.setL l) k:=by intro l;rfl
theorem csDe(v:CW)(k:Nat):∀ l:Int,(wC v k).set 83 (I l)=wC (v.setD l) k:=by intro l;rfl
theorem csN(v:CW)(k:Nat):∀ q n:Nat,(wC v k).set 82 (.osl q 7 0 n)=wC (v.setN n) q:=by intro q n;rfl
theorem csF(v:CW)(k i:Nat)(h:i<3):∀ b:Bool,(wC v k).set (79+i) (B b)=wC (v.setF i b) k:=by intro b;rcases i with _|_|_|i<;>first|rfl|omega
theorem csFs(v:CW)(k:Nat):spl (wC v k) [B false,B false,B false] 79=wC v.noF k:=by rfl
theorem Qi(v:CW)(k i:Nat)(h:i<3):∀ l:List AWatch,(wC v k).set (i*10+9) (.d (.sl 3 (l.map AWatch.row)))=wC (v.setS i ⟨(v.s i).up,(v.s i).disk,(v.s i).peer,(v.s i).tree,l⟩) k:=by intro l;rcases i with _|_|_|i<;>first|rfl|omega
theorem csSv(v:CW)(k i:Nat)(h:i<3):∀ x:XV,spl (wC v k) (svC x) (i*10)=wC (v.setS i x) k:=by intro x;rcases i with _|_|_|i<;>first|rfl|omega
theorem csCl(v:CW)(k i:Nat)(h:i<16):∀ x:X0,spl (wC v k) (clC x) (30+i*3)=wC (v.setC i x) k:=by intro x;rcases i with _|_|_|_|_|_|_|_|_|_|_|_|_|_|_|_|i<;>first|rfl|omega
theorem Jr(v:CW)(i:Nat)(x:XV):(v.setS i x).s i=x:=RJ rfl
theorem Ke(v:CW)(i:Nat)(x:Bool):(v.setF i x).f i=x:=RJ rfl
theorem RE(v:CW)(k i:Nat)(h:i<3):List.take 10 (List.drop (i*10) (List.take 30 (wC v k)))=[.d (.bool (v.s i).up),.d (.sl 3 ((v.s i).disk.files.map AFile.row)),I (v.s i).peer.id,I (v.s i).peer.epoch,.d (.sl 7 ((v.s i).peer.log.map ATxn.row)),I (v.s i).peer.done,I (v.s i).tree.zxid,.d (.sl 9 ((v.s i).tree.nodes.map XU.row)),.d (.sl 1 ((v.s i).tree.sessions.map aY)),.d (.sl 3 ((v.s i).watches.map AWatch.row))]:=by rcases i with _|_|_|i<;>first|rfl|omega
theorem OX(v:CW)(k i:Nat)(h:i<16)(a b:Int)(l:List AEntry):(wC v k).take (30+i*3)++[.d (.int .i64 a),.d (.int .i64 b),.d (.sl 3 (l.map AEntry.row))]++(wC v k).drop (30+i*3+3)=wC (v.setC i ⟨a,b,l⟩) k:=csCl v k i h ⟨a,b,l⟩
theorem cwSv(v:CW)(k i:Nat)(h:i<3)(up:Bool)(d:List AFile)(id ep:Int)(log:List ATxn)(done tz:Int)(nd:List XU)(se:List Int)(wt:List AWatch):(wC v k).take (i*10)++[.d (.bool up),.d (.sl 3 (d.map AFile.row)),.d (.int .i64 id),.d (.int .i64 ep),.d (.sl 7 (log.map ATxn.row)),.d (.int .i64 done),.d (.int .i64 tz),.d (.sl 9 (nd.map XU.row)),.d (.sl 1 (se.map aY)),.d (.sl 3 (wt.map AWatch.row))]++(wC v k).drop (i*10+10)=wC (v.setS i ⟨up,⟨d⟩,⟨id,ep,log,done⟩,⟨tz,nd,se⟩,wt⟩) k:=csSv v k i h ⟨up,⟨d⟩,⟨id,ep,log,done⟩,⟨tz,nd,se⟩,wt⟩
theorem cwFs(v:CW)(k:Nat):(wC v k).take 79++[.d (.bool false),.d (.bool false),.d (.bool false)]++(wC v k).drop 82=wC v.noF k:=csFs v k
theorem QO(v:CW)(i:Nat)(x:XV):(v.setS i x).c=v.c:=rfl
theorem Qx(v:CW)(i:Nat)(x:XV):(v.setS i x).leader=v.leader:=rfl
theorem Qh(v:CW)(i:Nat)(x:XV):(v.setS i x).f=v.f:=rfl
theorem Rk(v:CW)(i:Nat)(x:XV):(v.setS i x).n=v.n:=rfl
theorem Q6(v:CW)(i:Nat)(x:Bool):(v.setF i x).s=v.s:=rfl
theorem Rd(v:CW)(i:Nat)(x:Bool):(v.setF i x).c=v.c:=rfl
theorem RF(v:CW)(i:Nat)(x:Bool):(v.setF i x).leader=v.leader:=rfl
theorem P0(v:CW)(i:Nat)(x:Bool):(v.setF i x).n=v.n:=rfl
theorem QK(v:CW)(i:Nat)(x:X0):(v.setC i x).s=v.s:=rfl
theorem Qb(v:CW)(i:Nat)(x:X0):(v.setC i x).leader=v.leader:=rfl
theorem QP(v:CW)(i:Nat)(x:X0):(v.setC i x).f=v.f:=rfl
theorem Rw(v:CW)(i:Nat)(x:X0):(v.setC i x).n=v.n:=rfl
theorem P9(v:CW)(x:Int):(v.setL x).s=v.s:=rfl
theorem QD(v:CW)(x:Int):(v.setL x).c=v.c:=rfl
theorem Rz(v:CW)(x:Int):(v.setL x).n=v.n:=rfl
theorem Qt(v:CW)(x:Int):(v.setL x).leader=x:=rfl
theorem Rc(v:CW)(x:Nat):(v.setN x).s=v.s:=rfl
theorem Rl(v:CW)(x:Nat):(v.setN x).c=v.c:=rfl
theorem Ql(v:CW)(x:Nat):(v.setN x).leader=v.leader:=rfl
theorem Re(v:CW)(x:Nat):(v.setN x).n=x:=rfl
theorem Oc(v:CW):v.noF.s=v.s:=rfl
theorem M1(v:CW):v.noF.c=v.c:=rfl
theorem M0(v:CW):v.noF.n=v.n:=rfl
theorem M3(v:CW):v.noF.leader=v.leader:=rfl
attribute [go_sem] Py cgL cgDe cgN cgF cgUp PU OQ RB PW cgTz Q7 cgSv cgCl Rb csL csDe csN csF Qi OX cwSv cwFs Jr Ke QO Qx Qh Rk Q6 Rd RF P0 QK Qb QP Rw P9 QD Rz Qt Rc Rl Ql Re Oc M1 M0 M3
attribute [go_sem] RE Nat.add_zero Nat.mul_one
theorem vO(f:Nat→Nat)(v:CW)(k:Nat):renL f (wC v k)=wC v (f k):=rfl
theorem EH(n:Nat)(v:CW)(k:Nat)(h:k<n):inL n (wC v k):=by unfold wC svC clC;simp only[SB,Sx,inL,inV];simp only[WM,SI];exact h
theorem KF(v:CW)(k:Nat):(wC v k)[82]?=some (.osl k 7 0 v.n):=rfl
theorem zi(v:CW)(k q:Nat):(wC v k).set 82 (.osl q 7 0 v.n)=wC v q:=rfl
theorem XR{hp:List ABlk}{cs:List AV}{rs:List (List DV)}{v:CW}(h0:hp[0]?=some (.cells (wC v 1)))(h1:hp[1]?=some (.rows 7 rs))(hc:cs[11]?=some (.d (.sc (.slice none 0 0))))(hin:cF cs) :
  af 2 hp (.agg cs) (dr (.agg (cs.set 11 (.osl 3 3 0 0))) [.cells (wC v 2),.dead,.rows 7 rs,.rows 3 []]):=by
 have hl0:0<hp.length:=(RM.1 h0).1;have hl1:1<hp.length:=(RM.1 h1).1;have s1:=Xr 0 82 (np:=2) (nt:=1) (env:=[(0,AV.agg cs)]) h0 (KF v 1) h1 (by simp) (by decide);rw[zi] at s1;have s2:=XJ 0 11 3 (np:=2) (nt:=1) (env:=[(0,AV.agg cs)]) (hp:=(hp.set 1 .dead).set 0 (.cells (wC v hp.length))++[.rows 7 rs]) (cs:=cs) rfl hc;refine Xc (v':=.agg (cs.set 11 (.osl 3 3 0 0))) (hp':=[.cells (wC v 2),.dead,.rows 7 rs,.rows 3 []]) (ax.trans s1 (ax.trans s2 (ax.frame [0,1,hp.length,hp.length+1] rfl (fun i hi=>?_) ?_ (fun k hk=>?_) ?_ ?_))) (af.same ⟨rfl,rfl⟩)
 ·simp only[RW,R6,Ua] at hi
  simp only[RL,R3,RQ,Sd];omega
 ·simp only[Sj,RW,R6,Ua,not_or,R5,Sr,WM]
  omega
 ·rcases k with _|_|k
  ·rfl
  ·rfl
  ·omega
 ·refine⟨⟨?_,?_⟩,Yj⟩
  ·simp only[cy,S9,RL,R3,RQ,Sd]
   simp only[renV];rw[Bx,(eu _ cs hin).1];rfl
  ·exact E1 _ _ _ _ (qJ (RX _) _ (eu (fun k=>k) cs hin).2) (by show 3<4;decide)
 ·refine⟨.inr ⟨?_,?_⟩,.inl rfl,.inr ⟨?_,?_⟩,.inr ⟨?_,?_⟩,Yj⟩
  ·show((((hp.set 1 .dead).set 0 (ABlk.cells (wC v hp.length))++[ABlk.rows 7 rs])++[ABlk.rows 3 []])[0]?)=some (ABlk.cells (renL _ (wC v 2)))
   rw[vO];rw[R2 (by simp),R2 (by simp;omega),TW (by simp;omega)];rfl
  ·exact EH _ _ _ (show 2<4 by decide)
  ·show((((hp.set 1 ABlk.dead).set 0 (ABlk.cells (wC v hp.length))++[ABlk.rows 7 rs])++[ABlk.rows 3 []])[hp.length]?)=_
   rw[R2 (by simp),RT (by simp)];simp[renB]
  ·trivial
  ·show((((hp.set 1 ABlk.dead).set 0 (ABlk.cells (wC v hp.length))++[ABlk.rows 7 rs])++[ABlk.rows 3 []])[hp.length+1]?)=_
   rw[RT (by simp)];simp[renB]
  ·trivial
theorem Ps(n:Nat)(v:CW)(k:Nat):inL n (wC v k)=(k<n):=by unfold wC svC clC;simp only[SB,Sx,inL,inV];simp only[WM,SI]
theorem iJ:∀(ks:List Nat) (hp:List ABlk) (j:Nat),j∉ks→(killIds ks hp)[j]?=hp[j]?
 |[],hp,j,_=>rfl
 | k::r,hp,j,h=>by
   rw[killIds,iJ r _ j (fun hh=>h (Si _ hh)),Uy (fun e=>h (by rw[e];exact SF ..))]
theorem mv:∀(ks:List Nat) (hp:List ABlk),(killIds ks hp).length=hp.length
 |[],hp=>rfl
 |k::r,hp=>by rw[killIds,mv r,R3]
theorem Xw{hp:List ABlk}{v y:AV}{W:CW}{rs:List (List DV)}(h0:hp[0]?=some (.cells (wC W 1)))(h1:hp[1]?=some (.rows 7 rs))(hi:∀ j,j∈eB v→2≤j)(hf:cc hp v)(hn:cp (bt hp v))(hc:dM (bt hp v) y)(hy:cp y) :
  af 2 hp v (dr y [.cells (wC W 1),.rows 7 rs]):=by
 have hl0:0<hp.length:=(RM.1 h0).1;have hl1:1<hp.length:=(RM.1 h1).1;have hlk:=mv (eB v) hp
 have s1:=XK 0 (np:=2) (nt:=1) (env:=[(0,v)]) (hp:=hp) (v:=v) (fun j hj=>by
  refine⟨fun hh=>by have:=hi j hh;omega,?_⟩;rcases j with _|_|j
  ·exact⟨_,h0,by simp⟩
  ·exact⟨_,h1,by simp⟩
  ·omega) rfl hf hn
 have hren:=kF (mAt [0,1] (killIds (eB v) hp).length) (bt hp v) hn;refine Xc (v':=bt hp v) (hp':=[.cells (wC W 1),.rows 7 rs]) (ax.trans s1 (ax.frame [0,1] rfl (fun i hi=>?_) (by decide) (fun k hk=>?_) ?_ ?_)) (af.coe hc (af.same ⟨rfl,rfl⟩))
 ·simp only[RW,R6,Ua] at hi
  omega
 ·rcases k with _|_|k
  ·rfl
  ·rfl
  ·omega
 ·refine⟨⟨?_,uI (RX _) _ hren.2⟩,Yj⟩
  simp only[cy,S9];exact hren.1.symm
 ·refine⟨.inr ⟨?_,?_⟩,.inr ⟨?_,Yj⟩,Yj⟩
  ·show(killIds (eB v) hp)[0]?=some (.cells (renL _ (wC W 1)))
   rw[vO,iJ _ _ _ (fun hh=>by have:=hi 0 hh;omega),h0];rfl
  ·exact EH _ _ _ (show 1<2 by decide)
  ·show(killIds (eB v) hp)[1]?=some (.rows 7 rs)
   rw[iJ _ _ _ (fun hh=>by have:=hi 1 hh;omega),h1]
theorem MV(f:Nat→Nat)(v:CW)(k:Nat):renL f (List.take 30 (wC v k))=List.take 30 (wC v k):=rfl
theorem OR(n:Nat)(v:CW)(k:Nat):inL n (List.take 30 (wC v k))=True:=by refine eq_true ?_;show inL n (svC (v.s 0)++(svC (v.s 1)++svC (v.s 2)));unfold svC;simp only[SB,Sx,inL,inV,Th]
attribute [go_sem] vO Ps MV OR
theorem XF{hp:List ABlk}{v y:AV}{sz:Nat}{rs:List (List DV)}(h0:hp[0]?=some (.rows sz rs))(hi:∀ j,j∈eB v→1≤j)(hf:cc hp v)(hn:cp (bt hp v))(hc:dM (bt hp v) y)(hy:cp y) :
  af 1 hp v (dr y [.rows sz rs]):=by
 have hl0:0<hp.length:=(RM.1 h0).1;have hlk:=mv (eB v) hp
 have s1:=XK 0 (np:=1) (nt:=1) (env:=[(0,v)]) (hp:=hp) (v:=v) (fun j hj=>by
  refine⟨fun hh=>by have:=hi j hh;omega,?_⟩;rcases j with _|j
  ·exact⟨_,h0,by simp⟩
  ·omega) rfl hf hn
 have hren:=kF (mAt [0] (killIds (eB v) hp).length) (bt hp v) hn;refine Xc (v':=bt hp v) (hp':=[.rows sz rs]) (ax.trans s1 (ax.frame [0] rfl (fun i hi=>?_) (by decide) (fun k hk=>?_) ?_ ?_)) (af.coe hc (af.same ⟨rfl,rfl⟩))
 ·simp only[RW,R6,Ua] at hi
  omega
 ·rcases k with _|k
  ·rfl
  ·omega
 ·refine⟨⟨?_,uI (RX _) _ hren.2⟩,Yj⟩
  simp only[cy,S9];exact hren.1.symm
 ·refine⟨.inr ⟨?_,Yj⟩,Yj⟩
  show(killIds (eB v) hp)[0]?=some (.rows sz rs);rw[iJ _ _ _ (fun hh=>by have:=hi 0 hh;omega),h0]
theorem NT(c:X0)(l:List XX)(h:c.cache.length≤100000)(hl:l.length*32≤140737488351232)(hr:aF (c.cache.map AEntry.path)) :
  ab prog [.rows 3 (l.map XX.row)] 187 [c.av,.osl 0 3 0 l.length] (dr (X0.av ⟨c.session,c.seen,dZ c.session c.cache l⟩) [.rows 3 (l.map XX.row)]):=by
 have hb:c.cache.length*40≤140737488351232:=by omega
 refine zJ func187 ntmps187 results187 ?_;simp only[go_sem];refine zW qw (z1 (pJ c hb)) Yj (z1 ?_);refine W9 (ι:=Nat) (fun k=>k≤l.length) (fun k=>l.length-k) [2,4,11,12] (fun k=>[(13,I k)]) (fun k=>[.rows 3 (l.map XX.row),.cells [I c.session,I c.seen,.osl 3 3 0 (dZ c.session c.cache (l.take k)).length],.cells [I 0,I 0,.d (.sc (.slice none 0 0))],.rows 3 ((dZ c.session c.cache (l.take k)).map AEntry.row)]) 0 ?_ ?_ ?_
 ·omega
 ·simp only[go_sem,uS];exact zSm Yj
 intro k hk;obtain⟨hr1,hn1⟩:=tI (s:=c.session) (l.take k) hr;have hb1:(dZ c.session c.cache (l.take k)).length*40≤140737488351232:=by omega
 have hpl:=nC (l:=dZ c.session c.cache (l.take k)) (key:=(l.getD k default).event.path);simp only[go_sem]
 by_cases hm:(l.getD k default).event.path∈(dZ c.session c.cache (l.take k)).map AEntry.path
 ·have hlt:=nN hr1 hm
  (refine zW qw (z2 ((tf ⟨c.session,c.seen,dZ c.session c.cache (l.take k)⟩ (l.getD k default).event.path hb1 hr1).re (by simp only;rw[decide_eq_true hm])) (ow (CG ((dZ c.session c.cache (l.take k)).map AEntry.row) (place ((dZ c.session c.cache (l.take k)).map AEntry.path) (l.getD k default).event.path) (by simpa using hlt) (by simpa using hb1)))) (zx @XX.rgetD @dS) (z3 ?_ ?_ ?_)<;>(repeat with_reducible intro hc))
  ·refine Zq (k+1) ?_
   rw[gL _ _ _ _ (by assumption),vF (fun h=>hc.elim (fun x=>x h.1) (fun x=>h.2 x))];exact zFr [0,1,2,3] Yj
  ·refine Zq (k+1) ?_
   rw[gL _ _ _ _ (by assumption),rh (by assumption),rU hr1 hm];have hel:=cP _ _ hlt;exact zFr [0,1,2,5] @hel
  ·have e:k=l.length:=by omega
   subst e;simp only[R7]
   (refine zOp Yj ?_;simp(disch:=omega) only[go_sem,aa];refine XF rfl (by intro j hj;simp only[go_sem,Sp,RW,R6,Ua,Wh,Sx,Se,SB] at hj;omega) ?_ ?_ ?_ ?_<;>simp(disch:=omega) only[go_sem,aa,I,B,S,zj,RP])
 ·(refine zW qw (z1 ((tf ⟨c.session,c.seen,dZ c.session c.cache (l.take k)⟩ (l.getD k default).event.path hb1 hr1).re (by simp only;rw[R0 hm]))) @XX.rgetD (z3 ?_ ?_ ?_)<;>(repeat with_reducible intro hc))
  ·refine Zq (k+1) ?_
   rw[gL _ _ _ _ (by assumption),vF (fun h=>hc.elim (fun x=>x h.1) (fun x=>h.2 x))];exact zFr [0,1,2,3] Yj
  ·refine Zq (k+1) ?_
   rw[gL _ _ _ _ (by assumption),rh (by assumption),uY hm];exact zFr [0,1,2,3] Yj
  ·have e:k=l.length:=by omega
   subst e;simp only[R7]
   (refine zOp Yj ?_;simp(disch:=omega) only[go_sem,aa];refine XF rfl (by intro j hj;simp only[go_sem,Sp,RW,R6,Ua,Wh,Sx,Se,SB] at hj;omega) ?_ ?_ ?_ ?_<;>simp(disch:=omega) only[go_sem,aa,I,B,S,zj,RP])
theorem qUd0:Pls [XS [0,1,2,3,4,5,6,7,8,10,11,9,12,13] .done]:=pls _
def kw(ns:List XX)(c:X0):X0:=⟨c.session,c.seen,dZ c.session c.cache ns⟩
def CW.told(v:CW)(ns:List XX)(k:Nat):CW:={ v with c:=fun j=>if j<k then kw ns (v.c j) else v.c j }
theorem EW(v:CW)(ns:List XX)(k:Nat):(v.told ns k).c k=v.c k:=RI (Nat.lt_irrefl k)
theorem yd(v:CW)(ns:List XX):v.told ns 0=v:=by
 unfold CW.told
 have:(fun j=>if j<0 then kw ns (v.c j) else v.c j)=v.c:=funext fun j=>RI (Vd j)
 rw[this]
theorem xk(v:CW)(ns:List XX)(k:Nat):(v.told ns k).setC k (kw ns (v.c k))=v.told ns (k+1):=by
 unfold CW.told CW.setC
 have:(fun j=>if j=k then kw ns (v.c k) else if j<k then kw ns (v.c j) else v.c j)=fun j=>if j<k+1 then kw ns (v.c j) else v.c j:=funext fun j=>by
  by_cases e:j=k
  ·subst e;rw[RJ rfl,RJ (Nat.lt_succ_self j)]
  ·rw[RI e]
   by_cases h:j<k
   ·rw[RJ h,RJ (by omega)]
   ·rw[RI h,RI (by omega)]
 simp only[this]
theorem EE(v:CW)(rs:List (List DV))(ns:List XX)(hc:∀ i,i<16→(v.c i).cache.length≤100000∧aF ((v.c i).cache.map AEntry.path))(hl:ns.length*32≤140737488351232) :
  ab prog [.cells (wC v 1),.rows 7 rs,.rows 3 (ns.map XX.row)] 116 [.ptr 0 0,.osl 2 3 0 ns.length] (dr (.tup []) [.cells (wC (v.told ns 16) 1),.rows 7 rs,.rows 3 (ns.map XX.row)]):=by
 refine zJ func116 ntmps116 results116 ?_;simp only[go_sem];refine zW qw zn Yj (z1 ?_);refine W9 (ι:=Nat) (fun k=>k≤16) (fun k=>16-k) [0,1] (fun k=>[(5,I k)]) (fun k=>[.cells (wC (v.told ns k) 1),.rows 7 rs,.rows 3 (ns.map XX.row)]) 0 ?_ ?_ ?_
 ·omega
 ·simp only[go_sem,yd];exact zSm Yj
 intro k hk;simp only[go_sem]
 by_cases hk2:k<16
 ·obtain⟨c1,c2⟩:=hc k hk2
  have ht:=NT (v.c k) ns c1 hl c2
  (refine zW qw (z2 qUd0 (ac [2] ht)) @EW (z1 ?_)<;>(repeat with_reducible intro hc))
  refine Zq (k+1) ?_;rw[←xk];exact zFr [0,1,2] @kw.eq_1
 ·have e:k=16:=by omega
  subst e
  (refine zW qw zn Yj (z1 ?_)<;>(repeat with_reducible intro hc))
  (refine zOp Yj ?_;simp(disch:=omega) only[go_sem,aa];refine Xc ?_ (af.same ⟨rfl,rfl⟩);refine zV [0,1,2] rfl rfl rfl rfl ?_ ?_<;>simp(disch:=omega) only[go_sem,aa,UC,UD])
theorem P8:Pls [XS [0,1,2,3,4,5,6] .done]:=pls _
attribute [go_sem] ntmps108 results108
def cw(w:AWorld):CW:=⟨w.s,w.c,w.leader,w.f,w.done.length,w.deeds⟩
theorem yA{w:AWorld}{i:Nat}(h:i<w.sv.length)(x:XV):(cw w).setS i x=cw (w.setS i x):=by
 have:(w.setS i x).s=fun j=>if j=i then x else w.s j:=funext fun j=>fB h x j
 unfold cw CW.setS;rw[this];rfl
theorem Mk{w:AWorld}{i:Nat}(h:i<w.cl.length)(x:X0):(cw w).setC i x=cw (w.setC i x):=by
 have:(w.setC i x).c=fun j=>if j=i then x else w.c j:=funext fun j=>IY h x j
 unfold cw CW.setC;rw[this];rfl
theorem yS{w:AWorld}{i:Nat}(h:i<w.fl.length)(x:Bool):(cw w).setF i x=cw (w.setF i x):=by
 have:(w.setF i x).f=fun j=>if j=i then x else w.f j:=funext fun j=>rl h x j
 unfold cw CW.setF;rw[this];rfl
theorem iW(w:AWorld):((cw w).setL (-1)).noF=cw w.resign:=by
 have:w.resign.f=fun _=>false:=funext fun j=>B1 w j
 unfold cw CW.setL CW.noF;rw[this];rfl
def avN(r:X2)(nt:AV):AV:=.agg [I r.code,I r.zxid,S r.path,S r.data,I r.stat.czxid,I r.stat.mzxid,I r.stat.pzxid,I r.stat.version,I r.stat.cversion,I r.stat.owner,I r.stat.kids,nt]
abbrev d6(w:AWorld)(r:X2):AV→List ABlk→Prop:=dr (avN r (.osl 3 3 0 r.notes.length)) [.cells (wC (cw w) 2),.dead,.rows 7 (w.done.map ATxn.row),.rows 3 (r.notes.map XX.row)]
abbrev inW(w:AWorld):List ABlk:=[.cells (wC (cw w) 1),.rows 7 (w.done.map ATxn.row)]
theorem XP{hp:List ABlk}{w:AWorld}{r:X2}(hn:r.notes=[])(h0:hp[0]?=some (.cells (wC (cw w) 1)))(h1:hp[1]?=some (.rows 7 (w.done.map ATxn.row))) :
  af 2 hp (avN r (.d (.sc (.slice none 0 0)))) (d6 w r):=by
 have h:=XR (cs:=[I r.code,I r.zxid,S r.path,S r.data,I r.stat.czxid,I r.stat.mzxid,I r.stat.pzxid,I r.stat.version,I r.stat.cversion,I r.stat.owner,I r.stat.kids,.d (.sc (.slice none 0 0))]) h0 h1 rfl (by simp[cF,cp]);unfold d6;rw[hn];exact h
theorem Xe{hp:List ABlk}{w:AWorld}{r:X2}{v:CW}(hv:v=cw w)(hn:r.notes=[])(h0:hp[0]?=some (.cells (wC v 1)))(h1:hp[1]?=some (.rows 7 (w.done.map ATxn.row))) :
  af 2 hp (avN r (.d (.sc (.slice none 0 0)))) (d6 w r):=by
 subst hv;exact XP hn h0 h1
theorem Xn{hp:List ABlk}{w:AWorld}{r:X2}{v:CW}(p q:Nat)(hv:v=cw w)(h0:hp[0]?=some (.cells (wC v p)))(h1:hp[p]?=some (.rows 7 (w.done.map ATxn.row)))(hp0:p≠0)(hq:hp[q]?=some (.rows 3 (r.notes.map XX.row)))(hq0:q≠0∧q≠1∧q≠p) :
  af 2 hp (avN r (.osl q 3 0 r.notes.length)) (d6 w r):=by
 subst hv;have hl0:0<hp.length:=(RM.1 h0).1;have hlp:p<hp.length:=(RM.1 h1).1;have hlq:q<hp.length:=(RM.1 hq).1;have s1:=Xr 0 82 (np:=2) (nt:=1) (env:=[(0,avN r (.osl q 3 0 r.notes.length))]) h0 (KF (cw w) p) h1 (by simp) hp0;rw[zi] at s1;refine Xc (v':=avN r (.osl 3 3 0 r.notes.length)) (hp':=[.cells (wC (cw w) 2),.dead,.rows 7 (w.done.map ATxn.row),.rows 3 (r.notes.map XX.row)]) (ax.trans s1 (ax.frame [0,1,hp.length,q] rfl (fun i hi=>?_) ?_ (fun k hk=>?_) ?_ ?_)) (af.same ⟨rfl,rfl⟩)
 ·simp only[RW,R6,Ua] at hi
  simp only[RL,R3,RQ,Sd];omega
 ·simp only[Sj,RW,R6,Ua,not_or,R5,Sr,WM]
  omega
 ·rcases k with _|_|k
  ·rfl
  ·rfl
  ·omega
 ·exact⟨⟨rfl,⟨Yj,Yj,Yj,Yj,Yj,Yj,Yj,Yj,Yj,Yj,Yj,(show 3<4 by decide),Yj⟩⟩,Yj⟩
 ·refine⟨.inr ⟨?_,?_⟩,.inl rfl,.inr ⟨?_,Yj⟩,.inr ⟨?_,Yj⟩,Yj⟩
  ·show(((hp.set p ABlk.dead).set 0 (ABlk.cells (wC (cw w) hp.length))++[ABlk.rows 7 (w.done.map ATxn.row)])[0]?)=some (ABlk.cells (renL _ (wC (cw w) 2)))
   rw[vO,R2 (by simp;omega),TW (by simp;omega)];rfl
  ·exact EH _ _ _ (show 2<4 by decide)
  ·show(((hp.set p ABlk.dead).set 0 (ABlk.cells (wC (cw w) hp.length))++[ABlk.rows 7 (w.done.map ATxn.row)])[hp.length]?)=_
   rw[RT (by simp)];simp[renB]
  ·show(((hp.set p ABlk.dead).set 0 (ABlk.cells (wC (cw w) hp.length))++[ABlk.rows 7 (w.done.map ATxn.row)])[q]?)=_
   rw[R2 (by simp;omega),Uy (by omega),Uy (by omega),hq];rfl
theorem cw_s(w:AWorld):(cw w).s=w.s:=rfl
theorem cw_c(w:AWorld):(cw w).c=w.c:=rfl
theorem cw_l(w:AWorld):(cw w).leader=w.leader:=rfl
theorem cw_f(w:AWorld):(cw w).f=w.f:=rfl
theorem cw_n(w:AWorld):(cw w).n=w.done.length:=rfl
theorem cw_d(w:AWorld):(cw w).deeds=w.deeds:=rfl
attribute [go_sem] cw_s cw_c cw_l cw_f cw_n cw_d
structure WL (w:AWorld):Prop where
 sl:w.sv.length=3
 fl:w.fl.length=3
 cl:w.cl.length=16
theorem wo{w:AWorld}(h:w.sv.length=3){i:Nat}(hi:i<3)(x:XV):(cw w).setS i x=cw (w.setS i x):=yA (by omega) x
theorem QF{w:AWorld}(h:w.fl.length=3){i:Nat}(hi:i<3)(b:Bool):(cw w).setF i b=cw (w.setF i b):=yS (by omega) b
theorem JI{w:AWorld}(h:w.fl.length=3){i:Nat}(hi:i<3)(x:XV)(j:Nat)(b:Bool):(cw (w.setS j x)).setF i b=cw ((w.setS j x).setF i b):=yS (w:=w.setS j x) (show i<w.fl.length by omega) b
theorem FD{w:AWorld}(h:w.cl.length=16){i:Nat}(hi:i<16)(x:X0):(cw w).setC i x=cw (w.setC i x):=Mk (by omega) x
theorem Js(w:AWorld)(i:Nat)(keep:Int)(hi:i<3)(hw:WL w)(hs:(w.s i).wf)(ii:Int)(hii:ii=(i:Int)):ab prog (inW w) 59 [.ptr 0 0,I ii,I keep] (d6 (iv w i keep).1 (iv w i keep).2):=by
 subst hii;have hct:=LR (w.s i) keep hs;obtain⟨e1,e2,e3⟩:=hw;unfold iv
 by_cases hu:(w.s i).up=false
 ·rw[RJ hu]
  unfold inW d6;refine zJ func59 ntmps59 results59 ?_;simp only[go_sem];refine zW qw zn @hu (z1 (fun hc=>?_))
  all_goals try exact zk1
  (refine zOp Yj ?_;simp(disch:=omega) only[go_sem,aa];exact Xe (r:=noR 14) (rfl) rfl rfl rfl)
 rw[RI hu];have hu':(w.s i).up=true:=by simpa using hu
 generalize bR (w.s i) keep=q at hct ⊢;obtain⟨x,e⟩:=q;simp only at hct ⊢
 by_cases he:e=0
 case neg=>
  rw[RJ he];unfold inW d6;refine zJ func59 ntmps59 results59 ?_;simp only[go_sem]
  (refine zW qw (z1 hct) Yj (z2 ?_ ?_)<;>(repeat with_reducible intro hc))
  all_goals first|(exfalso;omega)|(exfalso;exact absurd (by assumption) hu)|skip
  (refine zOp Yj ?_;simp(disch:=omega) only[go_sem,aa];exact Xe (r:=noR e) (rfl) rfl rfl rfl)
 subst he;rw[RI (fun h=>h rfl)];have h1:((cw w).setS i x).setF i false=cw ((w.setS i x).setF i false):=by rw[yA (by omega),yS (by show i<w.fl.length;omega)]
 by_cases hl:w.leader=(i:Int)
 ·rw[RJ hl]
  unfold inW d6;refine zJ func59 ntmps59 results59 ?_;simp only[go_sem]
  (refine zW qw (z2 (ic func108) hct) @hl (z2 ?_ ?_)<;>(repeat with_reducible intro hc))
  all_goals first|(exfalso;omega)|(exfalso;exact absurd (by assumption) hu)|skip
  (refine zOp Yj ?_;simp(disch:=omega) only[go_sem,aa];exact Xe (r:=noR 0) ((congrArg (fun v:CW=>(v.setL (-1)).noF) h1).trans (iW _)) rfl rfl rfl)
 ·rw[RI hl]
  unfold inW d6;refine zJ func59 ntmps59 results59 ?_;simp only[go_sem]
  (refine zW qw (z2 (ic func108) hct) Yj (z2 ?_ ?_)<;>(repeat with_reducible intro hc))
  all_goals first|(exfalso;omega)|(exfalso;exact absurd (by assumption) hu)|skip
  (refine zOp Yj ?_;simp(disch:=omega) only[go_sem,aa];exact Xe (r:=noR 0) (h1) rfl rfl rfl)
theorem Qj(w:AWorld)(i:Nat)(hi:i<3)(hw:WL w)(hs:(w.s i).wf)(ii:Int)(hii:ii=(i:Int)):ab prog (inW w) 58 [.ptr 0 0,I ii] (d6 (upW w i).1 (upW w i).2):=by
 subst hii;have hct:=JB i (w.s i).disk hs.2.1.1 hs.2.1.2;obtain⟨e1,e2,e3⟩:=hw;unfold upW
 by_cases hu:(w.s i).up=true
 ·rw[RJ hu]
  unfold inW d6;refine zJ func58 ntmps58 results58 ?_;simp only[go_sem];refine zW qw zn @hu (z1 (fun hc=>?_))
  all_goals try exact zk1
  (refine zOp Yj ?_;simp(disch:=omega) only[go_sem,aa];exact Xe (r:=noR 8) (rfl) rfl rfl rfl)
 rw[RI hu];have hu':(w.s i).up=false:=by simpa using hu
 generalize cK i (w.s i).disk.files=q at hct ⊢;obtain⟨x,e⟩:=q;simp only at hct ⊢
 by_cases he:e=0
 case neg=>
  rw[RJ he];unfold inW d6;refine zJ func58 ntmps58 results58 ?_;simp only[go_sem];refine zW qw (z2 P8 hct) @hu' (z1 (fun hc hc=>?_))
  all_goals try exact zk1
  (refine zOp Yj ?_;simp(disch:=omega) only[go_sem,aa];exact Xe (r:=noR e) (rfl) rfl rfl rfl)
 subst he;rw[RI (fun h=>h rfl)];have h1:(cw w).setS i x=cw (w.setS i x):=yA (by omega) x;unfold inW d6;refine zJ func58 ntmps58 results58 ?_;simp only[go_sem];refine zW qw (z2 P8 hct) @hu' (z1 (fun hc hc=>?_))
 all_goals try exact zk1
 (refine zOp Yj ?_;simp(disch:=omega) only[go_sem,aa];exact Xe (r:=noR 0) (h1) rfl rfl rfl)
theorem GM(w:AWorld):ab prog (inW w) 18 [.ptr 0 0] (dr (I w.leader) (inW w)):=by
 unfold inW;refine zJ func18 ntmps18 results18 ?_;simp only[go_sem];refine zW qw zn Yj (z1 (fun hc=>?_))
 all_goals try exact zk1
 (refine zOp Yj ?_;simp(disch:=omega) only[go_sem,aa];refine Xc ?_ (af.same ⟨rfl,rfl⟩);refine zV [0,1] rfl rfl rfl rfl ?_ ?_<;>simp(disch:=omega) only[go_sem,aa,UC,UD])
theorem CD(s:XV)(hw:s.wf):ab prog [] 64 [s.av] (dr (.agg [B s.up,.osl 0 3 0 s.disk.files.length,I s.peer.id,I s.peer.epoch,.osl 1 7 0 s.peer.log.length,I s.peer.done,I s.tree.zxid,.osl 2 9 0 s.tree.nodes.length,.osl 3 1 0 s.tree.sessions.length,.osl 4 3 0 s.watches.length]) [.rows 3 (s.disk.files.map AFile.row),.rows 7 (s.peer.log.map ATxn.row),.rows 9 (s.tree.nodes.map XU.row),.rows 1 (s.tree.sessions.map aY),.rows 3 (s.watches.map AWatch.row)]):=by
 obtain⟨_,h1,h2,h3,h4⟩:=hw;have hl1:=h1.1;have hl2:=h2.2.2.1.1;have hl3:=h3.2.1.1;have hl4:=h3.2.2.1;have hl5:=h4.1;refine zJ func64 ntmps64 results64 ?_;simp only[go_sem];refine zW qw zn Yj (z1 ?_)
 (refine zOp Yj ?_;simp(disch:=omega) only[go_sem,aa];refine Xc ?_ (af.same ⟨rfl,rfl⟩);refine zV [2,3,4,5,6] rfl rfl rfl rfl ?_ ?_<;>simp(disch:=omega) only[go_sem,aa,UC,UD])
theorem G2(w:AWorld)(i:Nat)(hi:i<3)(hs:(w.s i).wf)(ii:Int)(hii:ii=(i:Int)):ab prog (inW w) 22 [.ptr 0 0,I ii] (dr (w.s i).av (inW w)):=by
 subst hii;unfold inW;refine zJ func22 ntmps22 results22 ?_;simp only[go_sem];refine zW qw (z1 (CD (w.s i) hs)) Yj (z1 (fun hc=>?_))
 all_goals try exact zk1
 (refine zOp Yj ?_;simp(disch:=omega) only[go_sem,aa];refine Xw rfl rfl (by intro j hj;simp only[go_sem,Sp,RW,R6,Ua,Wh,Sx,Se,SB] at hj;omega) ?_ ?_ ?_ ?_<;>simp(disch:=omega) only[go_sem,aa,I,B,S,zj,RP])
theorem Gs(w:AWorld)(i:Nat)(hi:i<16)(hs:(w.c i).wf)(ii:Int)(hii:ii=(i:Int)):ab prog (inW w) 24 [.ptr 0 0,I ii] (dr (w.c i).av (inW w)):=by
 subst hii;have hl:=hs.2.2.1;unfold inW;refine zJ func24 ntmps24 results24 ?_;simp only[go_sem];refine zW qw zn Yj (z1 (fun hc=>?_))
 all_goals try exact zk1
 (refine zOp Yj ?_;simp(disch:=omega) only[go_sem,aa];refine Xw rfl rfl (by intro j hj;simp only[go_sem,Sp,RW,R6,Ua,Wh,Sx,Se,SB] at hj;omega) ?_ ?_ ?_ ?_<;>simp(disch:=omega) only[go_sem,aa,I,B,S,zj,RP])
theorem OD(w:AWorld)(hl:w.done.length≤100000):ab prog (inW w) 20 [.ptr 0 0] (dr (.d (.sl 7 (w.done.map ATxn.row))) (inW w)):=by
 have t1:List.take w.done.length (w.done.map ATxn.row)=w.done.map ATxn.row:=RK (by simp);unfold inW;refine zJ func20 ntmps20 results20 ?_;simp only[go_sem];refine zW qw zn @t1 (z1 (fun hc=>?_))
 all_goals try exact zk1
 (refine zOp (zx @t1 @VQ) ?_;simp(disch:=omega) only[go_sem,aa,t1,VQ];refine Xw rfl rfl (by intro j hj;simp only[go_sem,Sp,RW,R6,Ua,Wh,Sx,Se,SB] at hj;omega) ?_ ?_ ?_ ?_<;>simp(disch:=omega) only[go_sem,aa,t1,VQ,I,B,S,zj,RP])
attribute [go_sem] ntmps108 results108
theorem w7{l:List X3}(h:(bS l).2.2=0):∃ b:Nat,(bS l).1=(b:Int)∧b<l.length∧okI (bS l).2.1:=by
 unfold bS at h ⊢;split at h
 ·rename_i h0
  rw[RJ h0];split at h
  ·exact absurd h (by decide)
  ·rename_i h1
   rw[RI h1];split at h
   ·exact absurd h (by decide)
   ·rename_i h2
    rw[RI h2];obtain⟨a,b,c⟩:=p7 l.length h0;exact⟨_,rfl,by omega,by simp only;constructor<;>omega⟩
 ·exact absurd h (by assumption)
def dj(w:AWorld)(k:Nat):List X3:=((List.range k).filter fun i=>(w.s i).up).map fun i=>(w.s i).peer
theorem d7(w:AWorld)(k:Nat):dj w (k+1)=if(w.s k).up=true then dj w k++[(w.s k).peer] else dj w k:=by
 unfold dj;rw[VF,SA,Sn];split
 ·rename_i h
  congr 1;simp[h]
 ·rename_i h
  simp[h]
theorem wV{w:AWorld}(h:w.sv.length=3):dj w 3=bQ w:=by
 have:w.sv=[w.s 0,w.s 1,w.s 2]:=by unfold AWorld.s;generalize w.sv=l at h ⊢;rcases l with _|⟨a,_|⟨b,_|⟨c,_|⟨d,l⟩⟩⟩⟩<;>first|rfl|(simp at h)
 unfold bQ;rw[this];rw[d7,d7,d7];generalize w.s 0=a;generalize w.s 1=b;generalize w.s 2=c;have h0:dj w 0=[]:=rfl;rw[h0];cases ha:a.up<;>cases hb:b.up<;>cases hc:c.up<;>simp[ha,hb,hc]
theorem ja(w:AWorld):∀ k,(dj w k).length≤k
 |0=>RP _
 | k+1=>by
   have:=ja w k;rw[d7];split
   ·rw[RL,Sv];omega
   ·omega
theorem ur{w:AWorld}{k:Nat}{p:X3}(h:p∈dj w k):∃ i,i<k∧p=(w.s i).peer:=by unfold dj at h;obtain⟨i,hi,e⟩:=SV.1 h;exact⟨i,Un.1 (TE.1 hi).1,e.symm⟩
structure ElOk (w:AWorld):Prop where
 l:WL w
 s:∀ i,i<3→GS (w.s i)
 n:∀ i,i<3→(w.s i).peer.log.length≤100000
 v:∀ i,i<3→(w.s i).watches.length≤400
 c:∀ i,i<16→(w.c i).cache.length≤100000∧aF ((w.c i).cache.map AEntry.path)
 d:w.done.length≤100000
theorem rI{k:Nat}(h:k<3):([0,1,2]:List Nat).drop k=k::([0,1,2]:List Nat).drop (k+1):=by rcases k with _|_|_|k<;>first|rfl|omega
structure ElInv (w:AWorld) (L:List ATxn) (ep:Int) (F:AWorld×List XX×Int) (v:Nat×AWorld×List XX):Prop where
 k:v.1≤3
 f:bI L ep (([0,1,2]:List Nat).drop v.1) v.2.1 v.2.2=F
 l:WL v.2.1
 s:∀ i,v.1≤i→i<3→v.2.1.s i=w.s i
 d:v.2.1.done=w.done
 n:v.2.2.length≤400*v.1
 c:v.2.1.cl=w.cl
theorem ElInv.down{w:AWorld}{L:List ATxn}{ep:Int}{F:AWorld×List XX×Int}{v:Nat×AWorld×List XX}(h:ElInv w L ep F v)(hk:v.1<3)(hu:(w.s v.1).up=false):ElInv w L ep F (v.1+1,v.2):=by obtain⟨h1,h2,h3,h4,h5,h6,h7⟩:=h;have hs:=h4 v.1 (RP _) hk;rw[rI hk,bI,hs,RJ hu] at h2;exact⟨hk,h2,h3,fun i a b=>h4 i (by simp only at a;omega) b,h5,by simp only;omega,h7⟩
theorem ElInv.stop1{w:AWorld}{L:List ATxn}{ep:Int}{F:AWorld×List XX×Int}{v:Nat×AWorld×List XX}(h:ElInv w L ep F v)(hk:v.1<3)(hu:¬ (w.s v.1).up=false)(hf:(aG (w.s v.1) L ep).2≠0):F=(v.2.1,v.2.2,(aG (w.s v.1) L ep).2):=by have h2:=h.f;have hs:=h.s v.1 (RP _) hk;rw[rI hk,bI,hs,RI hu,RJ hf] at h2;exact h2.symm
theorem ElInv.stop2{w:AWorld}{L:List ATxn}{ep:Int}{F:AWorld×List XX×Int}{v:Nat×AWorld×List XX}(h:ElInv w L ep F v)(hk:v.1<3)(hu:¬ (w.s v.1).up=false)(hf:¬ (aG (w.s v.1) L ep).2≠0)
  (hc:(au (aG (w.s v.1) L ep).1 L.length).2.2≠0):F=(v.2.1,v.2.2,(au (aG (w.s v.1) L ep).1 L.length).2.2):=by
 have h2:=h.f;have hs:=h.s v.1 (RP _) hk;rw[rI hk,bI,hs,RI hu,RI hf,RJ hc] at h2;exact h2.symm
theorem ElInv.next{w:AWorld}{L:List ATxn}{ep:Int}{F:AWorld×List XX×Int}{v:Nat×AWorld×List XX}(h:ElInv w L ep F v)(hk:v.1<3)(hu:¬ (w.s v.1).up=false)(hf:¬ (aG (w.s v.1) L ep).2≠0)
  (hc:¬ (au (aG (w.s v.1) L ep).1 L.length).2.2≠0) (hw:(w.s v.1).watches.length≤400) :
  ElInv w L ep F (v.1+1,(v.2.1.setS v.1 (au (aG (w.s v.1) L ep).1 L.length).1).setF v.1 true,v.2.2++(au (aG (w.s v.1) L ep).1 L.length).2.1):=by
 obtain⟨h1,h2,⟨e1,e2,e3⟩,h4,h5,h6,h7⟩:=h;have hs:=h4 v.1 (RP _) hk;rw[rI hk,bI,hs,RI hu,RI hf,RI hc] at h2;have hn:=eX (aG (w.s v.1) L ep).1 L.length;have hn2:=(jD (w.s v.1) L ep).length_le;refine⟨hk,h2,⟨?_,?_,e3⟩,fun i a b=>?_,h5,?_,h7⟩
 ·show(v.2.1.sv.set _ _).length=3;rw[R3];exact e1
 ·show(v.2.1.fl.set _ _).length=3;rw[R3];exact e2
 ·simp only at a
  show(v.2.1.setS v.1 _).s i=w.s i;rw[fB (by omega),RI (by omega)];exact h4 i (by omega) b
 ·simp only[RL];omega
theorem ElInv.end{w:AWorld}{L:List ATxn}{ep:Int}{F:AWorld×List XX×Int}{v:Nat×AWorld×List XX}(h:ElInv w L ep F v)(hk:¬ v.1<3):F=(v.2.1,v.2.2,0):=by
 have h2:=h.f;have hk3:v.1=3:=by have:=h.k;omega
 rw[hk3] at h2;exact h2.symm
theorem sW{w:AWorld}(h:w.cl.length=16)(ns:List XX):(cw w).told ns 16=cw (dk w ns):=by
 have:(fun j=>if j<16 then kw ns (w.c j) else w.c j)=(dk w ns).c:=funext fun j=>by
  by_cases hj:j<16
  ·rw[RJ hj,uD (by omega)];rfl
  ·rw[RI hj]
   unfold AWorld.c dk;simp only;rw[RG,RG,R9 (by omega),R9 (by simp;omega)]
 show(CW.mk w.s (fun j=>if j<16 then kw ns (w.c j) else w.c j) w.leader w.f w.done.length w.deeds)=_;rw[this];rfl
theorem Lz(w:AWorld)(hw:ElOk w):ab prog (inW w) 57 [.ptr 0 0] (d6 (dg w).1 (dg w).2):=by
 obtain⟨⟨e1,e2,e3⟩,hs,hn,hv4,hc16,hd⟩:=hw;unfold dg;rw[←wV e1];unfold inW d6;refine zJ func57 ntmps57 results57 ?_;simp only[go_sem];refine zW qw zn Yj (z1 ?_);refine Xa (Xf 3 4 rfl) ?_;simp only[go_sem];refine W9 (ι:=Nat) (fun k=>k≤3) (fun k=>3-k) [0,2,19] (fun k=>[(20,I k),(3,.osl 3 4 0 (dj w k).length)]) (fun k=>[.cells (wC (cw w) 1),.rows 7 (w.done.map ATxn.row),.cells [I 0,I 0,S [],S [],I 0,I 0,I 0,I 0,I 0,I 0,I 0,.d (.sc (.slice none 0 0))],.rows 4 ((dj w k).map X3.row)]) 0 ?_ ?_ ?_
 ·omega
 ·simp only[go_sem,show dj w 0=[] from rfl];exact zSm Yj
 intro k hk;simp only[go_sem]
 by_cases hk3:k<3
 ·have hpl:=ja w k
  (refine zW qw zn Yj (z2 ?_ ?_)<;>(repeat with_reducible intro hc))
  all_goals(try(exfalso;omega))
  ·refine Zq (k+1) ?_
   rw[d7,RJ hc];exact zFr [0,1,2,6] (zx @List.map_append.{0,0} (zx @List.map_cons.{0,0} (zx @List.map_nil.{0,0} (zx @X3.row.eq_1 (zx @List.length_append.{0} (zx @List.length_cons.{0} @List.length_nil.{0}))))))
  ·refine Zq (k+1) ?_
   rw[d7,RI (by rw[hc];decide)];exact zFr [0,1,2,3] Yj
 have e:k=3:=by omega
 subst e;have hPl:=ja w 3;have hPm:=fun p hp=>@ur w 3 p hp
 have hPg:∀ p,p∈dj w 3→p.log.length≤100000∧∀ x,x∈p.log→x.wf∧x.path.length≤1048576:=fun p hp=>by obtain⟨i,hi,rfl⟩:=hPm p hp;exact⟨hn i hi,fun x hx=>⟨(hs i hi).w.2.2.1.2.2.1.2 x hx,(hs i hi).p x hx⟩⟩
 have hel:=N3 (dj w 3) (by omega) (fun p hp=>by have:=(hPg p hp).1;omega);have hok:=@w7 (dj w 3);generalize dj w 3=P at hPl hPm hPg hel hok ⊢;generalize bS P=q at hel hok ⊢;obtain⟨q1,ep,q3⟩:=q;simp only[jI] at hel hok ⊢
 by_cases hq:q3=0
 case neg=>
  simp only[ne_eq,hq,R5,S9];refine zW qw (z1 hel) Yj (z1 (fun hc hc=>?_))
  all_goals try exact zk1
  (refine zOp Yj ?_;simp(disch:=omega) only[go_sem,aa];exact Xe (r:=noR q3) (rfl) rfl rfl rfl)
 subst hq;obtain⟨b,hb,hbl,hep⟩:=hok rfl;subst hb;simp only[ne_eq,Tp,Tj,Ta];obtain⟨hL1,hL2⟩:=hPg _ (aZ P b hbl);have hrow:=fun z=>X3.rgetD P b z hbl
 generalize P.getD b default=B at hL1 hL2 hrow ⊢;generalize hF:bI B.log ep [0,1,2] w.resign []=F;refine zW qw (z2 (ic func108) hel) (zx @hrow @iW) (z1 (fun hc hc=>?_));refine Xa (Xf 10 3 rfl) ?_;simp only[go_sem];refine W9 (ι:=Nat×AWorld×List XX) (fun v=>ElInv w B.log ep F v) (fun v=>3-v.1) [0,2,3,6,7,9] (fun v=>[(48,I v.1),(10,.osl 4 3 0 v.2.2.length)]) (fun v=>[.cells (wC (cw v.2.1) 1),.rows 7 (w.done.map ATxn.row),.cells [I 0,I 0,S [],S [],I 0,I 0,I 0,I 0,I 0,I 0,I 0,.d (.sc (.slice none 0 0))],.rows 4 (P.map X3.row),.rows 3 (v.2.2.map XX.row)]) (0,w.resign,[]) ?_ ?_ ?_
 ·exact⟨RX _,hF,⟨e1,rfl,e3⟩,fun i _ _=>rfl,rfl,RP _,rfl⟩
 ·simp only[go_sem];exact zFr [0,1,2,3,4] Yj
 intro v hv;simp only[go_sem];have hvk:=hv.k;have hvn:=hv.n
 by_cases hk4:v.1<3
 ·have hs0:=hv.s v.1 (RP _) hk4
  have hg:=hs v.1 hk4;have hw4:=hv4 v.1 hk4;have hL1':B.log.length≤1048576:=by omega
  have hfo:=H6 (w.s v.1) B.log ep hg.w (fun x hx=>(hL2 x hx).1) hL1' hep;have hfg:=ye (ep:=ep) hg hL2 hL1' hep;have hco:=BZ (aG (w.s v.1) B.log ep).1 B.log.length hfg.w hfg.t hfg.p;have hdn:=hv.down hk4;have hst1:=hv.stop1 hk4;have hst2:=hv.stop2 hk4;have hnx:=fun a b c=>hv.next hk4 a b c hw4
  have hcf:=eX (aG (w.s v.1) B.log ep).1 B.log.length;have hff:=(jD (w.s v.1) B.log ep).length_le
  by_cases hu:(w.s v.1).up=false
  ·(refine zW qw zn @hs0 (z2 ?_ ?_)<;>(try with_reducible intro(K:ASt→Prop) hK)<;>(repeat with_reducible intro hc))
   all_goals try exact zk3
   refine⟨(v.1+1,v.2),hdn hu,by simp only;omega,?_⟩;exact zFr [0,1,2,3,4] Yj
  generalize aG (w.s v.1) B.log ep=fo at hfo hfg hco hst1 hst2 hnx hcf hff;obtain⟨f1,f2⟩:=fo;simp only at hfo hfg hco hst1 hst2 hnx hcf hff
  by_cases hf2:f2=0
  case neg=>
   have hF2:=hst1 hu hf2;subst hF2;simp only[ne_eq,hf2,R5,S9]
   (refine zW qw (z1 hfo) @hs0 (z2 ?_ ?_)<;>(repeat with_reducible intro hc))
   all_goals try exact zk3
   (refine zOp @SI ?_;simp(disch:=omega) only[go_sem,aa,SI];exact Xe (r:=noR f2) (rfl) rfl rfl (by rw[hv.d];rfl))
  subst hf2;generalize au f1 B.log.length=co at hco hst2 hnx hcf;obtain⟨c1,cn,ce⟩:=co;simp only at hco hst2 hnx hcf
  by_cases hce:ce=0
  case neg=>
   have hF2:=hst2 hu (fun h=>h rfl) hce;subst hF2;simp only[ne_eq,hce,R5,S9]
   (refine zW qw (z2 hfo hco) @hs0 (z2 ?_ ?_)<;>(repeat with_reducible intro hc))
   all_goals try exact zk3
   (refine zOp @SI ?_;simp(disch:=omega) only[go_sem,aa,SI];exact Xe (r:=noR ce) (rfl) rfl rfl (by rw[hv.d];rfl))
  subst hce
  (refine zW qw (z2 hfo hco) @hs0 (z2 ?_ ?_)<;>(repeat with_reducible intro hc))
  all_goals try exact zk3
  refine⟨_,hnx hu (fun h=>h rfl) (fun h=>h rfl),by simp only;omega,?_⟩;have k1:=wo hv.l.sl hk4;have k2:=JI hv.l.fl hk4;exact zFr [0,1,2,3,6] (zx @List.map_append.{0,0} (zx @List.length_append.{0} (zx @k1 @k2)))
 have hF2:=hv.end hk4;subst hF2;simp only[ne_eq,Tp,Tj];have hla:=mX B.log (by omega);have htl:=EE ((cw v.2.1).setL B.id) (w.done.map ATxn.row) v.2.2 (fun i hi=>by have:=hc16 i hi;show(v.2.1.cl.getD i default).cache.length≤_∧aF ((v.2.1.cl.getD i default).cache.map _);rw[hv.c];exact this) (by omega);refine zW qw (z2 (ac [0,1,4] htl) hla) @hrow (z1 (fun hc=>?_))
 all_goals try exact zk1
 refine zOp Yj ?_;simp(disch:=omega) only[go_sem,aa];exact Xn 1 4 (r:=⟨0,aA B.log,[],[],default,v.2.2⟩) (sW (w:={ v.2.1 with leader:=B.id }) hv.l.cl v.2.2) rfl (by rw[show(dk { v.2.1 with leader:=B.id } v.2.2).done=w.done from hv.d];rfl) (by decide) rfl (by decide)
theorem F1:Pls [XS [0,1,2,3,4,6,7,8,9,10,11,12] (.forks 5 (.fork 13 (XS [14] (.fork 15 (XS [16,17,18,19,20,21,22,23] .done) 20 (XS [15,16,17,18,19,21,22,23] .done))) 20 (XS [13,14,15,16,17,18,19,21,22,23] .done)) 13 (XS [14] (.fork 5 (.fork 15 (XS [16,17,18,19,20,21,22,23] .done) 20 (XS [15,16,17,18,19,21,22,23] .done)) 20 (XS [5,15,16,17,18,19,21,22,23] .done))) 20 (XS [5,13,14,15,16,17,18,19,21,22,23] .done)),XS [0,1,2,3,4,5,6] .done,XS [0,1,2,3,5] (.fork 4 (XS [6,7,8,9,10] .done) 6 (XS [4,7,8,9,10] .done)),XS [0,1,2,3,4,6] (.forks 5 (.fork 7 (.fork 8 (XS [9,10,11,12,13,14] .done) 12 (XS [8,9,10,11,13,14] .done)) 12 (XS [7,8,9,10,11,13,14] .done)) 7 (.fork 5 (.fork 8 (XS [9,10,11,12,13,14] .done) 12 (XS [8,9,10,11,13,14] .done)) 12 (XS [5,8,9,10,11,13,14] .done)) 12 (XS [5,7,8,9,10,11,13,14] .done)),XS [0,1,2,3,4,5,6] .done,XS [0,1,2,3,5,6,10] (.forks 4 (XS [7,8] (.forks 9 (.fork 11 (.fork 12 (XS [13,14,15,16,17,18] .done) 16 (XS [12,13,14,15,17,18] .done)) 16 (XS [11,12,13,14,15,17,18] .done)) 11 (.fork 9 (.fork 12 (XS [13,14,15,16,17,18] .done) 16 (XS [12,13,14,15,17,18] .done)) 16 (XS [9,12,13,14,15,17,18] .done)) 16 (XS [9,11,12,13,14,15,17,18] .done))) 11 (.fork 4 (XS [7,8] (.fork 9 (.fork 12 (XS [13,14,15,16,17,18] .done) 16 (XS [12,13,14,15,17,18] .done)) 16 (XS [9,12,13,14,15,17,18] .done))) 16 (XS [4,7,8,9,12,13,14,15,17,18] .done)) 16 (XS [4,7,8,9,11,12,13,14,15,17,18] .done))]:=pls _
structure SG (s:XV):Prop where
 gs:GS s
 g:aS s.tree=true
 v:s.watches.length≤400
theorem Bb:∀(X:List ATxn) (p:CSt),okT p.t→aS p.t=true→(∀ x,x∈X→x.wf∧x.path.length≤1048576)→okT (jm X p).1.t∧aS (jm X p).1.t=true
 |[],p,h,hg,_=>⟨h,hg⟩
 | x :: X,p,h,hg,hX=>by
   by_cases he:(ah p.t x).2.2=0
   ·rw[nM he]
    obtain⟨x1,x2⟩:=hX x (SF ..);exact Bb X (jv (ah p.t x) p x) (vC h x1 x2) (tU he) fun y hy=>hX y (Si _ hy)
   ·rw[rv he];exact⟨h,hg⟩
theorem Hz{s:XV}{n:Int}(h:SG s)(hn:okI n)(h0:(au s n).2.2=0):SG (au s n).1:=by
 have hsub:=commit_sub s n;have hX:∀ x,x∈(s.peer.log.drop s.peer.done.toNat).take (n.toNat-s.peer.done.toNat)→x.wf∧x.path.length≤1048576:=fun x hm=>by have hm2:=SJ (St hm);exact⟨h.gs.w.2.2.1.2.2.1.2 x hm2,h.gs.p x hm2⟩
 obtain⟨a,b⟩:=Bb _ ⟨s.tree,s.watches,[]⟩ h.gs.t h.g hX;unfold au at h0 hsub ⊢;split at h0
 ·exact absurd h0 (by decide)
 rename_i hb;rw[RI hb] at hsub ⊢;simp only at h0 hsub ⊢;split at h0
 ·rename_i hq
  rw[RJ hq] at hsub ⊢;simp only at hsub ⊢;obtain⟨_,h1,h2,h3,h4⟩:=h.gs.w;refine⟨⟨⟨Yj,h1,⟨h2.1,h2.2.1,h2.2.2.1,hn⟩,a.1,⟨?_,fun y hy=>h4.2 y (hsub.subset hy)⟩⟩,a,h.gs.p⟩,b,R8 hsub.length_le h.v⟩;exact R8 (Sc 32 hsub.length_le) h4.1
 ·exact absurd h0 (by assumption)
theorem NL{s:XV}{x:ATxn}{safe:Bool}(h:SG s)(hx:x.wf)(hp:x.path.length≤1048576)(hl:s.peer.log.length≤1048576)(h0:(bg s x safe).2=0):SG (bg s x safe).1:=by
 have hg:=EL (safe:=safe) h.gs hx hp hl;have hs:=take_sub s x safe;refine⟨hg,?_,R8 hs.length_le h.v⟩;unfold bg at h0 ⊢;split at h0
 ·exact absurd h0 (by decide)
 rename_i h1;rw[RI h1];split at h0
 ·rename_i h2
  rw[RJ h2];exact h.g
 ·exact absurd h0 (by assumption)
structure CmInv (w:AWorld) (hv:List Nat) (F:AWorld×List XX×Int) (v:Nat×AWorld×List XX):Prop where
 k:v.1≤hv.length
 f:bj (hv.drop v.1) v.2.1 v.2.2=F
 l:WL v.2.1
 s:∀ i,i<3→SG (v.2.1.s i)
 d:v.2.1.done=w.done
 n:v.2.2.length≤400*v.1
 c:v.2.1.cl=w.cl
 ld:v.2.1.leader=w.leader
theorem tK(l:List Nat)(k:Nat)(h:k<l.length):l.drop k=l.getD k default::l.drop (k+1):=by rw[S7 h,RG,RH h];rfl
theorem CmInv.stop{w:AWorld}{hv:List Nat}{F:AWorld×List XX×Int}{v:Nat×AWorld×List XX}(h:CmInv w hv F v)(hk:v.1<hv.length){j:Nat}(hj:hv.getD v.1 default=j)(hc:(au (v.2.1.s j) (v.2.1.s j).peer.log.length).2.2≠0) :
  F=(v.2.1,v.2.2,(au (v.2.1.s j) (v.2.1.s j).peer.log.length).2.2):=by
 have h2:=h.f;rw[tK hv v.1 hk,hj,bj,RJ hc] at h2;exact h2.symm
theorem CmInv.next{w:AWorld}{hv:List Nat}{F:AWorld×List XX×Int}{v:Nat×AWorld×List XX}(h:CmInv w hv F v)(hk:v.1<hv.length){j:Nat}(hj:hv.getD v.1 default=j)(hj3:j<3)(hc:¬ (au (v.2.1.s j) (v.2.1.s j).peer.log.length).2.2≠0) :
  CmInv w hv F (v.1+1,v.2.1.setS j (au (v.2.1.s j) (v.2.1.s j).peer.log.length).1,v.2.2++(au (v.2.1.s j) (v.2.1.s j).peer.log.length).2.1):=by
 obtain⟨h1,h2,⟨e1,e2,e3⟩,h4,h5,h6,h7,h8⟩:=h;rw[tK hv v.1 hk,hj,bj,RI hc] at h2;have hs:=h4 j hj3;have hn:=eX (v.2.1.s j) (v.2.1.s j).peer.log.length;have hl:=hs.gs.w.2.2.1.2.2.1.1;have hg:=Hz hs (n:=((v.2.1.s j).peer.log.length:Int)) (by constructor<;>omega) (TA.1 hc);have hv4:=hs.v;refine⟨hk,h2,⟨?_,e2,e3⟩,fun i hi=>?_,h5,?_,h7,h8⟩
 ·show(v.2.1.sv.set _ _).length=3;rw[R3];exact e1
 ·show SG ((v.2.1.setS j _).s i)
  rw[fB (by omega)];split
  ·exact hg
  ·exact h4 i hi
 ·simp only[RL];omega
theorem CmInv.end{w:AWorld}{hv:List Nat}{F:AWorld×List XX×Int}{v:Nat×AWorld×List XX}(h:CmInv w hv F v)(hk:¬ v.1<hv.length):F=(v.2.1,v.2.2,0):=by have h2:=h.f;rw[Ww (by omega)] at h2;exact h2.symm
def gO(i:Nat):List DV:=[.int .i64 (i:Int)]
theorem Fp(w:AWorld)(x:ATxn):(cw w).setN (w.done.length+1)=cw { w with done:=w.done++[x] }:=by unfold cw CW.setN;simp only[RL,Sv];rfl
structure CmOk (w:AWorld) (who:Nat) (x:ATxn) (hv:List Nat):Prop where
 l:WL w
 s:∀ i,i<3→SG (w.s i)
 c:∀ i,i<16→(w.c i).cache.length≤100000∧aF ((w.c i).cache.map AEntry.path)
 d:w.done.length≤100000
 ld:0≤w.leader∧w.leader<3
 h:hv.length≤3∧∀ i,i∈hv→i<3
 wh:who<16
 sn:(w.c who).seen≤x.zxid
 x:x.wf
theorem FE(w:AWorld)(who:Nat)(x:ATxn)(hv:List Nat)(hw:CmOk w who x hv)(wi:Int)(hwi:wi=(who:Int)):ab prog (inW w) 109 [.ptr 0 0,I wi,x.av,.d (.sl 1 (hv.map gO))] (d6 (lP w who x hv).1 (lP w who x hv).2):=by
 subst hwi;obtain⟨⟨e1,e2,e3⟩,hs,hc16,hd,⟨hl0,hl3⟩,⟨hh3,hhm⟩,hwho,hsn,hxw⟩:=hw;unfold lP;generalize hF:bj hv w []=F;unfold inW d6;refine zJ func109 ntmps109 results109 ?_;simp only[go_sem];refine zW qw zn Yj (z1 ?_);refine Xa (Xf 9 3 rfl) ?_;simp only[go_sem];refine W9 (ι:=Nat×AWorld×List XX) (fun v=>CmInv w hv F v) (fun v=>hv.length-v.1) [0,1,6,8,19,20] (fun v=>[(21,I v.1),(9,.osl 4 3 0 v.2.2.length)]) (fun v=>[.cells (wC (cw v.2.1) 1),.rows 7 (w.done.map ATxn.row),.cells [I x.zxid,I x.op,I x.session,S x.path,S x.data,I x.version,I x.owner],.cells [I 0,I 0,S [],S [],I 0,I 0,I 0,I 0,I 0,I 0,I 0,.d (.sc (.slice none 0 0))],.rows 3 (v.2.2.map XX.row)]) (0,w,[]) ?_ ?_ ?_
 ·exact⟨RX _,hF,⟨e1,e2,e3⟩,hs,rfl,RP _,rfl,rfl⟩
 ·simp only[go_sem];exact zFr [0,1,2,3,4] Yj
 intro v hi;simp only[go_sem];have hvk:=hi.k;have hvn:=hi.n
 by_cases hk4:v.1<hv.length
 ·have hrow:∀ z,List.getD (hv.map gO) v.1 z=gO (hv.getD v.1 default):=fun z=>bO gO hv v.1 z hk4
  have hj3:=hhm _ (aZ hv v.1 hk4);have hst:=@CmInv.stop _ _ _ _ hi hk4;have hnx:=@CmInv.next _ _ _ _ hi hk4;generalize hv.getD v.1 default=j at hrow hj3 hst hnx;have hg:=hi.s j hj3;have hlj:=hg.gs.w.2.2.1.2.2.1.1;have hco:=BZ (v.2.1.s j) (v.2.1.s j).peer.log.length hg.gs.w hg.gs.t hg.gs.p;have hst:=@hst j rfl;have hnx:=@hnx j rfl hj3;have hcf:=eX (v.2.1.s j) (v.2.1.s j).peer.log.length;have hg4:=hg.v;generalize au (v.2.1.s j) (v.2.1.s j).peer.log.length=co at hco hst hnx hcf;obtain⟨c1,cn,ce⟩:=co;simp only at hco hst hnx hcf
  by_cases hce:ce=0
  case neg=>
   have hF2:=hst hce;subst hF2;simp only[ne_eq,hce,R5,S9]
   (refine zW qw (z2 F1 hco) (zx @hrow @gO.eq_1) (zc ?_ (zc ?_ (zc ?_ (z4 ?_ ?_ ?_ ?_))))<;>(repeat with_reducible intro hc))
   all_goals try exact zk3
   all_goals(refine zOp @SI ?_;simp(disch:=omega) only[go_sem,aa,SI];exact Xe (r:=noR ce) (rfl) rfl rfl (by rw[hi.d];rfl))
  subst hce;have k1:=wo hi.l.sl hj3
  (refine zW qw (z2 F1 hco) (zx @hrow @gO.eq_1) (zc ?_ (zc ?_ (zc ?_ (z4 ?_ ?_ ?_ ?_))))<;>(repeat with_reducible intro hc))
  all_goals try exact zk3
  all_goals(refine⟨_,hnx (fun h=>h rfl),by simp only;omega,?_⟩;exact zFr [0,1,2,3,6] (zx @List.map_append.{0,0} (zx @List.length_append.{0} @k1)))
 have hF2:=hi.end hk4;subst hF2;simp only[ne_eq,Tp,Tj];have hdn:=hi.d;have htl:=EE ((cw v.2.1).setN (w.done.length+1)) (w.done.map ATxn.row++[[.int .i64 x.zxid,.int .i64 x.op,.int .i64 x.session,.str x.path,.str x.data,.int .i64 x.version,.int .i64 x.owner]]) v.2.2 (fun i hi2=>by have:=hc16 i hi2;show(v.2.1.cl.getD i default).cache.length≤_∧aF ((v.2.1.cl.getD i default).cache.map _);rw[hi.c];exact this) (by omega);have htd:((cw v.2.1).setN (w.done.length+1)).told v.2.2 16=cw (dk { v.2.1 with done:=v.2.1.done++[x] } v.2.2):=by rw[show((cw v.2.1).setN (w.done.length+1))=cw { v.2.1 with done:=v.2.1.done++[x] } from by rw[←hdn];exact Fp v.2.1 x];exact sW (w:={ v.2.1 with done:=v.2.1.done++[x] }) hi.l.cl v.2.2
 have hcu:(dk { v.2.1 with done:=v.2.1.done++[x] } v.2.2).c who=kw v.2.2 (w.c who):=by rw[uD (by show who<v.2.1.cl.length;rw[hi.c];omega)];show kw v.2.2 (v.2.1.cl.getD who default)=kw v.2.2 (w.cl.getD who default);rw[hi.c]
 have hud:(dk { v.2.1 with done:=v.2.1.done++[x] } v.2.2).done=w.done++[x]:=by show v.2.1.done++[x]=_;rw[hdn]
 have hul:(dk { v.2.1 with done:=v.2.1.done++[x] } v.2.2).leader=w.leader:=hi.ld;have hus:∀ i,i<3→SG ((dk { v.2.1 with done:=v.2.1.done++[x] } v.2.2).s i):=hi.s;have huc:(dk { v.2.1 with done:=v.2.1.done++[x] } v.2.2).cl.length=16:=by show(v.2.1.cl.map _).length=16;rw[RO,hi.l.cl]
 generalize dk { v.2.1 with done:=v.2.1.done++[x] } v.2.2=u at htd hcu hud hul hus huc ⊢;have hle:u.leader=((w.leader.toNat:Nat):Int):=by rw[hul];omega
 have hli:w.leader.toNat<3:=by omega
 have hgl:=hus _ hli;have hco:=hc16 who hwho;have hcl:(u.c who).cache.length≤100000:=by rw[hcu];exact R8 (qC _ _ _).length_le hco.1
 have hse:gv (u.c who) x.zxid=(⟨(u.c who).session,x.zxid,(u.c who).cache⟩,0):=by unfold gv;rw[RI];rw[hcu];show ¬ x.zxid<(w.c who).seen;omega
 have hsc:=Oo (u.c who) x.zxid (by omega);rw[hse] at hsc ⊢;have hgt:=lF (u.s w.leader.toNat).tree x.path hgl.gs.t.1.2.1.1 (aE hgl.g);rw[hle];simp only[ne_eq,Tp,Tj,Ta];generalize aw (u.s w.leader.toNat).tree x.path=gq at hgt ⊢;obtain⟨gn,ge⟩:=gq;simp only at hgt hsc ⊢;have k3:=FD huc hwho;have hle2:(u.setC who ⟨(u.c who).session,x.zxid,(u.c who).cache⟩).leader=((w.leader.toNat:Nat):Int):=hle;have hle3:(u.setC who ⟨(u.c who).session,x.zxid,(u.c who).cache⟩).s=u.s:=rfl;refine zW qs zn @hdn (z1 (fun hc=>?_))
 all_goals try exact zk1
 refine Xb [0,1,6,8] [(9,.osl 4 3 0 v.2.2.length)] [.cells (wC ((cw v.2.1).setN (w.done.length+1)) 5),.dead,.cells [I x.zxid,I x.op,I x.session,S x.path,S x.data,I x.version,I x.owner],.cells [I 0,I 0,S [],S [],I 0,I 0,I 0,I 0,I 0,I 0,I 0,.d (.sc (.slice none 0 0))],.rows 3 (v.2.2.map XX.row),.rows 7 (w.done.map ATxn.row++[[.int .i64 x.zxid,.int .i64 x.op,.int .i64 x.session,.str x.path,.str x.data,.int .i64 x.version,.int .i64 x.owner]])] ?_ ?_
 ·refine zW qw (z1 F1) @hdn (z2 ?_ ?_)
  all_goals try exact zk1
  all_goals exact zFr [0,1,2,3,4,6] Yj
 simp only[go_sem];refine zW qs (z1 (ac [0,5,4] htl)) @htd (z1 ?_);refine Xb [0,1,6,8] [(9,.osl 4 3 0 v.2.2.length),(15,.ptr 6 0),(16,I 0)] [.cells (wC (cw u) 5),.dead,.cells [I x.zxid,I x.op,I x.session,S x.path,S x.data,I x.version,I x.owner],.cells [I 0,I 0,S [],S [],I 0,I 0,I 0,I 0,I 0,I 0,I 0,.d (.sc (.slice none 0 0))],.rows 3 (v.2.2.map XX.row),.rows 7 (w.done.map ATxn.row++[[.int .i64 x.zxid,.int .i64 x.op,.int .i64 x.session,.str x.path,.str x.data,.int .i64 x.version,.int .i64 x.owner]]),.cells [I (u.c who).session,I x.zxid,.d (.sl 3 ((u.c who).cache.map AEntry.row))]] ?_ ?_
 ·refine zW qw (z2 F1 hsc) Yj (zc ?_ (zc ?_ (zc ?_ (z4 ?_ ?_ ?_ ?_))))
  all_goals try exact zk1
  all_goals exact zFr [0,1,2,3,4,5,6] Yj
 simp only[go_sem];refine zW qs zn Yj (z1 (fun hc=>?_))
 all_goals try exact zk1
 refine Xb [0,1,6,8] [(9,.osl 4 3 0 v.2.2.length)] [.cells (wC (cw (u.setC who ⟨(u.c who).session,x.zxid,(u.c who).cache⟩)) 5),.dead,.cells [I x.zxid,I x.op,I x.session,S x.path,S x.data,I x.version,I x.owner],.cells [I 0,I 0,S [],S [],I 0,I 0,I 0,I 0,I 0,I 0,I 0,.d (.sc (.slice none 0 0))],.rows 3 (v.2.2.map XX.row),.rows 7 (w.done.map ATxn.row++[[.int .i64 x.zxid,.int .i64 x.op,.int .i64 x.session,.str x.path,.str x.data,.int .i64 x.version,.int .i64 x.owner]])] ?_ ?_
 ·refine zW qw (z1 F1) Yj (z1 ?_)
  all_goals try exact zk1
  all_goals exact zFr [0,1,2,3,4,5] @k3
 simp only[go_sem];refine zW qs zn Yj (z1 ?_);refine Xb [0,1,6,8] [(9,.osl 4 3 0 v.2.2.length),(17,.ptr 6 0)] [.cells (wC (cw (u.setC who ⟨(u.c who).session,x.zxid,(u.c who).cache⟩)) 5),.dead,.cells [I x.zxid,I x.op,I x.session,S x.path,S x.data,I x.version,I x.owner],.cells [I 0,I 0,S [],S [],I 0,I 0,I 0,I 0,I 0,I 0,I 0,.d (.sc (.slice none 0 0))],.rows 3 (v.2.2.map XX.row),.rows 7 (w.done.map ATxn.row++[[.int .i64 x.zxid,.int .i64 x.op,.int .i64 x.session,.str x.path,.str x.data,.int .i64 x.version,.int .i64 x.owner]]),.cells [S gn.path,S gn.data,I gn.stat.czxid,I gn.stat.mzxid,I gn.stat.pzxid,I gn.stat.version,I gn.stat.cversion,I gn.stat.owner,I gn.stat.kids]] ?_ ?_
 ·refine zW qw (z2 F1 hgt) (zx @hle2 @hle3) (zc ?_ (zc ?_ (zc ?_ (zc ?_ (zc ?_ (zc ?_ (zc ?_ (zc ?_ (z4 ?_ ?_ ?_ ?_)))))))))
  all_goals try exact zk1
  all_goals exact zFr [0,1,2,3,4,5,6] @k3
 simp only[go_sem];refine zW qw zn Yj (z1 ?_);refine zOp Yj ?_;simp(disch:=omega) only[go_sem,aa];exact Xn 5 4 (r:=⟨0,x.zxid,x.path,[],gn.stat,v.2.2⟩) rfl rfl (by rw[show(u.setC who ⟨(u.c who).session,x.zxid,(u.c who).cache⟩).done=w.done++[x] from hud,Sn];rfl) (by decide) rfl (by decide)
theorem KH:Pls [XS [0,1,2,3,4,5,6,7,8,9] .done,XS [0,1,2,4] (.forks 3 (.fork 5 (.fork 6 (XS [7,8,9,10,11,12] .done) 10 (XS [6,7,8,9,11,12] .done)) 10 (XS [5,6,7,8,9,11,12] .done)) 5 (.fork 3 (.fork 6 (XS [7,8,9,10,11,12] .done) 10 (XS [6,7,8,9,11,12] .done)) 10 (XS [3,6,7,8,9,11,12] .done)) 10 (XS [3,5,6,7,8,9,11,12] .done)),XS [0,1,2,3,4,5,6,7,8,9,11,17,18] (.fork 10 (XS [12,13,14,15,16,19,20] .done) 12 (XS [10,13,14,15,16,19,20] .done)),XS [0,1,2,3,4,7] (.forks 5 (.fork 6 (.fork 8 (XS [9,10,11,12,13,14] .done) 12 (XS [8,9,10,11,13,14] .done)) 12 (XS [6,8,9,10,11,13,14] .done)) 6 (.fork 5 (.fork 8 (XS [9,10,11,12,13,14] .done) 12 (XS [8,9,10,11,13,14] .done)) 12 (XS [5,8,9,10,11,13,14] .done)) 12 (XS [5,6,8,9,10,11,13,14] .done)),XS [0,1,2,3,4,5,6] .done]:=pls _
attribute [go_sem] ntmps107 results107 ntmps108 results108
theorem MF(a:Int):bits .and .i64 a 1=a%2:=by show IntKind.i64.wrap ((BitVec.ofInt 64 a &&& BitVec.ofInt 64 ((1:Nat):Int)).toNat:Int)=_;rw[BitVec.toNat_and,kK 1 (by decide),show(1:Nat)=2^1-1 from rfl,Vz,BitVec.toNat_ofInt,UG];omega
theorem ID(n:Int)(i:Nat):decide (bits .and .i64 (n/2^i) 1=0)=!oM n i:=by rw[MF];unfold oM;rw[Tv,SY,RN,RR];omega
theorem xM{n:Nat}(h:n<1000):IntKind.u64.wrap (n:Int)=(n:Int):=by rw[IntKind.wrap_u64];omega
theorem OL(v:CW)(i:Nat)(b:Bool)(h:v.f i=b):v.setF i b=v:=by
 unfold CW.setF
 have:(fun j=>if j=i then b else v.f j)=v.f:=funext fun j=>by
  by_cases e:j=i
  ·subst e;rw[RJ rfl,h]
  ·rw[RI e]
 rw[this]
theorem xI(z:Int):okI (iX z).1:=by
 unfold iX;split
 ·rename_i h
  unfold bd at h;split
  ·exact⟨by show(-9223372036854775808:Int)≤0;decide,by show(0:Int)≤9223372036854775807;decide⟩
  ·constructor
   ·show(-9223372036854775808:Int)≤_;simp only;omega
   ·show _≤(9223372036854775807:Int);simp only;omega
 ·exact⟨by show(-9223372036854775808:Int)≤0;decide,by show(0:Int)≤9223372036854775807;decide⟩
theorem wZ(p:X3):okI (cD p).1:=by
 unfold cD;split
 ·split
  ·exact⟨by show(-9223372036854775808:Int)≤0;decide,by show(0:Int)≤9223372036854775807;decide⟩
  ·exact xI _
 ·exact xI _
structure Yb (w:AWorld) (x:ATxn) (lost slow:Int) (F:AWorld×List Nat×Int) (v:Nat×AWorld×List Nat):Prop where
 k:v.1≤3
 f:bU x w.leader lost slow (([0,1,2]:List Nat).drop v.1) v.2.1 v.2.2=F
 l:WL v.2.1
 s:∀ i,v.1≤i→i<3→v.2.1.s i=w.s i
 fl:∀ i,v.1≤i→i<3→v.2.1.f i=w.f i
 ld:v.2.1.leader=w.leader
 d:v.2.1.done=w.done
 c:v.2.1.cl=w.cl
 sg:∀ i,i<3→SG (v.2.1.s i)
 h:v.2.2.length≤v.1∧∀ i,i∈v.2.2→i<3
section
variable {w:AWorld} {x:ATxn} {lost slow:Int} {F:AWorld×List Nat×Int} {v:Nat×AWorld×List Nat}
theorem Yb.skip(h:Yb w x lost slow F v)(hk:v.1<3)(hf:v.2.1.f v.1=false):Yb w x lost slow F (v.1+1,v.2):=by obtain⟨h1,h2,h3,h4,h5,h6,h7,h8,h9,h10,h11⟩:=h;rw[rI hk,bU,RJ hf] at h2;exact⟨hk,h2,h3,fun i a b=>h4 i (by simp only at a;omega) b,fun i a b=>h5 i (by simp only at a;omega) b,h6,h7,h8,h9,by simp only;omega,h11⟩
theorem Yb.gone(h:Yb w x lost slow F v)(hk:v.1<3)(hf:¬ v.2.1.f v.1=false)(hb:¬ w.leader=(v.1:Int)∧oM lost v.1=true):Yb w x lost slow F (v.1+1,v.2.1.setF v.1 false,v.2.2):=by obtain⟨h1,h2,⟨e1,e2,e3⟩,h4,h5,h6,h7,h8,h9,h10,h11⟩:=h;rw[rI hk,bU,RI hf,RJ hb] at h2;refine⟨hk,h2,⟨e1,by show(v.2.1.fl.set _ _).length=3;rw[R3];exact e2,e3⟩,fun i a b=>h4 i (by simp only at a;omega) b,fun i a b=>?_,h6,h7,h8,h9,by simp only;omega,h11⟩;simp only at a;show(v.2.1.setF v.1 false).f i=w.f i;rw[rl (by omega),RI (by omega)];exact h5 i (by omega) b
theorem Yb.stop(h:Yb w x lost slow F v)(hk:v.1<3)(hf:¬ v.2.1.f v.1=false)(hb:¬ (¬ w.leader=(v.1:Int)∧oM lost v.1=true)){sf:Bool}(hsf:(decide (w.leader=(v.1:Int))||!oM slow v.1)=sf)(ht:(bg (w.s v.1) x sf).2≠0):F=(v.2.1,v.2.2,(bg (w.s v.1) x sf).2):=by have h2:=h.f;have hs:=h.s v.1 (RP _) hk;rw[rI hk,bU,hs,RI hf,RI hb,hsf,RJ ht] at h2;exact h2.symm
theorem Yb.next(h:Yb w x lost slow F v)(hk:v.1<3)(hf:¬ v.2.1.f v.1=false)(hb:¬ (¬ w.leader=(v.1:Int)∧oM lost v.1=true)){sf:Bool}(hsf:(decide (w.leader=(v.1:Int))||!oM slow v.1)=sf)(ht:¬ (bg (w.s v.1) x sf).2≠0)
  (hx:x.wf) (hp:x.path.length≤1048576) (hl:(w.s v.1).peer.log.length≤1048576):Yb w x lost slow F (v.1+1,v.2.1.setS v.1 (bg (w.s v.1) x sf).1,if sf=true then v.2.2++[v.1] else v.2.2):=by
 obtain⟨h1,h2,⟨e1,e2,e3⟩,h4,h5,h6,h7,h8,h9,h10,h11⟩:=h;have hs:=h4 v.1 (RP _) hk;rw[rI hk,bU,hs,RI hf,RI hb,hsf,RI ht] at h2;have hg:=h9 v.1 hk;rw[hs] at hg;have hg2:=NL (safe:=sf) hg hx hp hl (TA.1 ht);refine⟨hk,h2,⟨by show(v.2.1.sv.set _ _).length=3;rw[R3];exact e1,e2,e3⟩,fun i a b=>?_,fun i a b=>h5 i (by simp only at a;omega) b,h6,h7,h8,fun i hi=>?_,?_,?_⟩
 ·simp only at a
  show(v.2.1.setS v.1 _).s i=w.s i;rw[fB (by omega),RI (by omega)];exact h4 i (by omega) b
 ·show SG ((v.2.1.setS v.1 _).s i)
  rw[fB (by omega)];split
  ·exact hg2
  ·exact h9 i hi
 ·simp only
  split
  ·rw[RL,Sv];omega
  ·omega
 ·simp only
  intro i hi;split at hi
  ·rcases Sp.1 hi with hi|hi
   ·exact h11 i hi
   ·rw[S5.1 hi];exact hk
  ·exact h11 i hi
theorem Yb.end(h:Yb w x lost slow F v)(hk:¬ v.1<3):F=(v.2.1,v.2.2,0):=by
 have h2:=h.f;have hk3:v.1=3:=by have:=h.k;omega
 rw[hk3] at h2;exact h2.symm
end
structure WrOk (w:AWorld):Prop where
 l:WL w
 s:∀ i,i<3→SG (w.s i)
 n:∀ i,i<3→(w.s i).peer.log.length≤100000
 c:∀ i,i<16→(w.c i).cache.length≤100000∧aF ((w.c i).cache.map AEntry.path)
 cs:∀ i,i<16→okI (w.c i).session
 d:w.done.length≤100000
 ld:w.leader<3
 sn:∀ i,i<16→0≤w.leader→(w.c i).seen≤(cD (w.s w.leader.toNat).peer).1∨(cD (w.s w.leader.toNat).peer).2≠0
theorem Mh(w:AWorld)(d:X1)(hw:WrOk w)(hdw:d.wf)(hdp:d.request.path.length≤1048576):ab prog (inW w) 55 [.ptr 0 0,d.av] (d6 (dy w d).1 (dy w d).2):=by
 obtain⟨⟨e1,e2,e3⟩,hs,hn,hc16,hcz,hdn,hl3,hsn⟩:=hw;obtain⟨kind,client,server,rq,lost,slow,keep,watch⟩:=d;obtain⟨_,hcI,_,hrq,hlo,hsl,_,_⟩:=hdw;simp only at hcI hrq hlo hsl hdp;unfold dy;simp only
 by_cases h1:client<0∨16≤client
 ·rw[RJ h1]
  have hcb:(decide (client<0)||decide (16≤client))=true:=by rcases h1 with h|h<;>simp[h]
  unfold inW d6;refine zJ func55 ntmps55 results55 ?_;simp only[go_sem]
  (refine zW qs zn @hcb (z1 ?_)<;>(repeat with_reducible intro hc))
  all_goals try exact zk3
  all_goals(refine zOp Yj ?_;simp(disch:=omega) only[go_sem,aa];exact Xe (r:=noR 3) (rfl) rfl rfl rfl)
 rw[RI h1];obtain⟨cl,rfl⟩:∃ cl:Nat,client=(cl:Int):=⟨client.toNat,by omega⟩;have hcl:cl<16:=by omega
 have hcb:(decide ((cl:Int)<0)||decide (16≤(cl:Int)))=false:=by rw[R0 (by omega),R0 (by omega)];rfl
 by_cases h2:w.leader<0
 ·rw[RJ h2]
  have hlb:decide (w.leader<0)=true:=decide_eq_true h2;unfold inW d6;refine zJ func55 ntmps55 results55 ?_;simp only[go_sem]
  (refine zW qs zn (zx @hcb @hlb) (z1 ?_)<;>(repeat with_reducible intro hc))
  all_goals try exact zk3
  all_goals(refine zOp Yj ?_;simp(disch:=omega) only[go_sem,aa];exact Xe (r:=noR 14) (rfl) rfl rfl rfl)
 rw[RI h2];obtain⟨li,hle⟩:∃ li:Nat,w.leader=(li:Int):=⟨w.leader.toNat,by omega⟩;have hli:li<3:=by omega
 have hgl:=hs li hli;have hnx:=DZ (w.s li).peer hgl.gs.w.2.2.1.2.2.1.1;have hnk:=wZ (w.s li).peer;have hsn2:=hsn cl hcl (by omega);have hlb:decide ((li:Int)<0)=false:=R0 (by omega);unfold kP;rw[hle] at hsn2 ⊢;simp only[Ta] at hsn2 ⊢;generalize cD (w.s li).peer=q at hnx hnk hsn2 ⊢;obtain⟨z,ze⟩:=q;simp only at hnx hnk hsn2 ⊢;unfold inW d6;refine zJ func55 ntmps55 results55 ?_;simp only[go_sem]
 (refine zW qs zn (zx @hcb (zx @hle @hlb)) (z1 ?_)<;>(repeat with_reducible intro hc))
 all_goals try exact zk3
 refine Xb [0,3,4] [(5,.ptr 4 0)] [.cells (wC (cw w) 1),.rows 7 (w.done.map ATxn.row),.cells [I kind,I (cl:Int),I server,I rq.op,I rq.session,S rq.path,S rq.data,I rq.version,I rq.flags,I lost,I slow,I keep,B watch],.cells [I 0,I 0,S [],S [],I 0,I 0,I 0,I 0,I 0,I 0,I 0,.d (.sc (.slice none 0 0))],.cells [I rq.op,I (w.c cl).session,S rq.path,S rq.data,I rq.version,I rq.flags]] ?_ ?_
 ·(refine zW qw (z1 KH) Yj (z1 ?_)<;>(repeat with_reducible intro hc))
  all_goals try exact zk3
  all_goals exact zFr [0,1,2,3,4] Yj
 simp only[go_sem]
 (refine zW qs zn Yj (z1 ?_)<;>(repeat with_reducible intro hc))
 refine Xb [0,3,4,5] [(6,.ptr 0 (li*10))] [.cells (wC (cw w) 1),.rows 7 (w.done.map ATxn.row),.cells [I kind,I (cl:Int),I server,I rq.op,I rq.session,S rq.path,S rq.data,I rq.version,I rq.flags,I lost,I slow,I keep,B watch],.cells [I 0,I 0,S [],S [],I 0,I 0,I 0,I 0,I 0,I 0,I 0,.d (.sc (.slice none 0 0))],.cells [I rq.op,I (w.c cl).session,S rq.path,S rq.data,I rq.version,I rq.flags]] ?_ ?_
 ·(refine zW qw zn @hle (z1 ?_)<;>(repeat with_reducible intro hc))
  all_goals try exact zk3
  all_goals exact zFr [0,1,2,3,4] Yj
 simp only[go_sem]
 by_cases hz:ze=0
 case neg=>
  rw[RJ hz]
  (refine zW qs (z1 hnx) Yj (z1 ?_)<;>(repeat with_reducible intro hc))
  all_goals try exact zk3
  all_goals(refine zOp Yj ?_;simp(disch:=omega) only[go_sem,aa];exact Xe (r:=noR ze) (rfl) rfl rfl rfl)
 subst hz;rw[RI (fun h=>h rfl)];have hpr:=PP (w.s li).tree z ⟨rq.op,(w.c cl).session,rq.path,rq.data,rq.version,rq.flags⟩ hgl.gs.t ⟨hrq.1,hcz cl hcl,hrq.2.2.1,hrq.2.2.2.1,hrq.2.2.2.2.1,hrq.2.2.2.2.2⟩ hdp hnk;have hpk:=@td (w.s li).tree z ⟨rq.op,(w.c cl).session,rq.path,rq.data,rq.version,rq.flags⟩;generalize bA (w.s li).tree z ⟨rq.op,(w.c cl).session,rq.path,rq.data,rq.version,rq.flags⟩=p at hpr hpk ⊢;obtain⟨x,pe⟩:=p;simp only at hpr hpk ⊢
 (refine zW qs (z1 hnx) Yj (z1 ?_)<;>(repeat with_reducible intro hc))
 all_goals try exact zk3
 refine Xb [0,3,4] [(8,I pe),(9,.ptr 5 0)] [.cells (wC (cw w) 1),.rows 7 (w.done.map ATxn.row),.cells [I kind,I (cl:Int),I server,I rq.op,I rq.session,S rq.path,S rq.data,I rq.version,I rq.flags,I lost,I slow,I keep,B watch],.cells [I 0,I 0,S [],S [],I 0,I 0,I 0,I 0,I 0,I 0,I 0,.d (.sc (.slice none 0 0))],.cells [I rq.op,I (w.c cl).session,S rq.path,S rq.data,I rq.version,I rq.flags],.cells [I x.zxid,I x.op,I x.session,S x.path,S x.data,I x.version,I x.owner]] ?_ ?_
 ·(refine zW qw (z2 KH hpr) Yj (zc ?_ (zc ?_ (zc ?_ (z4 ?_ ?_ ?_ ?_))))<;>(repeat with_reducible intro hc))
  all_goals try exact zk3
  all_goals exact zFr [0,1,2,3,4,5] Yj
 simp only[go_sem]
 by_cases hz:pe=0
 case neg=>
  rw[RJ hz]
  (refine zW qs zn Yj (z1 ?_)<;>(repeat with_reducible intro hc))
  all_goals try exact zk3
  all_goals(refine zOp Yj ?_;simp(disch:=omega) only[go_sem,aa];exact Xe (r:=noR pe) (rfl) rfl rfl rfl)
 subst hz;rw[RI (fun h=>h rfl)];obtain⟨hxz,hxa⟩:=hpk rfl;obtain⟨hxw,hxp⟩:=Cr (yI hxa).1;have hsx:(w.c cl).seen≤x.zxid:=by rcases hsn2 with h|h<;>omega
 clear hpk hpr hnx hsn hsn2;rw[←hle];generalize hF:bU x w.leader lost slow [0,1,2] w []=F
 (refine zW qs zn Yj (z1 ?_)<;>(repeat with_reducible intro hc))
 all_goals try exact zk3
 refine Xa (Xf 10 1 rfl) ?_;simp only[go_sem];refine W9 (ι:=Nat×AWorld×List Nat) (fun v=>Yb w x lost slow F v) (fun v=>3-v.1) [0,3,4,9] (fun v=>[(75,I v.1),(10,.osl 6 1 0 v.2.2.length)]) (fun v=>[.cells (wC (cw v.2.1) 1),.rows 7 (w.done.map ATxn.row),.cells [I kind,I (cl:Int),I server,I rq.op,I rq.session,S rq.path,S rq.data,I rq.version,I rq.flags,I lost,I slow,I keep,B watch],.cells [I 0,I 0,S [],S [],I 0,I 0,I 0,I 0,I 0,I 0,I 0,.d (.sc (.slice none 0 0))],.cells [I rq.op,I (w.c cl).session,S rq.path,S rq.data,I rq.version,I rq.flags],.cells [I x.zxid,I x.op,I x.session,S x.path,S x.data,I x.version,I x.owner],.rows 1 (v.2.2.map gO)]) (0,w,[]) ?_ ?_ ?_
 ·exact⟨RX _,hF,⟨e1,e2,e3⟩,fun i _ _=>rfl,fun i _ _=>rfl,rfl,rfl,rfl,hs,RP _,fun i h=>by cases h⟩
 ·simp only[go_sem];exact zFr [0,1,2,3,4,5,6] Yj
 intro v hv;simp only[go_sem];have hvk:=hv.k;have hvld:=hv.ld;obtain⟨hh1,hh2⟩:=hv.h
 by_cases hk4:v.1<3
 ·have hs0:=hv.s v.1 (RP _) hk4
  by_cases hf:v.2.1.f v.1=false
  ·have hsk:=hv.skip hk4 hf
   (refine zW qs zn @hf (z1 ?_)<;>(repeat with_reducible intro hc))
   all_goals try exact zk3
   refine⟨(v.1+1,v.2),hsk,by simp only;omega,?_⟩;exact zFr [0,1,2,3,4,5,6] Yj
  have hft:v.2.1.f v.1=true:=by simpa using hf
  have hbe:=ID lost v.1;have hse:=ID slow v.1;have hwu:=xM (n:=v.1) (by omega)
  by_cases hb:¬ w.leader=(v.1:Int)∧oM lost v.1=true
  ·have hls:=hv.gone hk4 hf hb
   have k1:=QF hv.l.fl hk4;have hlf:decide ((v.1:Int)=w.leader)=false:=R0 (fun h=>hb.1 h.symm)
   (refine zW qs zn @hft (z1 ?_)<;>(repeat with_reducible intro hc))
   all_goals try exact zk3
   refine Xb [0,3,4,9,10,11,75] [] [.cells (wC (cw (v.2.1.setF v.1 false)) 1),.rows 7 (w.done.map ATxn.row),.cells [I kind,I (cl:Int),I server,I rq.op,I rq.session,S rq.path,S rq.data,I rq.version,I rq.flags,I lost,I slow,I keep,B watch],.cells [I 0,I 0,S [],S [],I 0,I 0,I 0,I 0,I 0,I 0,I 0,.d (.sc (.slice none 0 0))],.cells [I rq.op,I (w.c cl).session,S rq.path,S rq.data,I rq.version,I rq.flags],.cells [I x.zxid,I x.op,I x.session,S x.path,S x.data,I x.version,I x.owner],.rows 1 (v.2.2.map gO)] ?_ ?_
   ·(refine zW qw (z1 KH) (zx @hvld (zx @hlf (zx @hwu (zx @hbe @hb.2)))) (z2 ?_ ?_)<;>(repeat with_reducible intro hc))
    all_goals try exact zk3
    all_goals exact zFr [0,1,2,3,4,5,6] @k1
   simp only[go_sem];have hff:(v.2.1.setF v.1 false).f v.1=false:=by rw[rl (by have:=hv.l.fl;omega),RJ rfl]
   (refine zW qs zn @hff (z1 ?_)<;>(repeat with_reducible intro hc))
   all_goals try exact zk3
   refine⟨(v.1+1,v.2.1.setF v.1 false,v.2.2),hls,by simp only;omega,?_⟩;exact zFr [0,1,2,3,4,5,6] Yj
  have hgo:(bif decide ((v.1:Int)=w.leader) then true else !oM lost v.1)=true:=by
   by_cases e:(v.1:Int)=w.leader
   ·rw[decide_eq_true e];rfl
   ·rw[R0 e]
    have:oM lost v.1=false:=by
     by_cases hq:oM lost v.1=true
     ·exact absurd ⟨fun h=>e h.symm,hq⟩ hb
     ·simpa using hq
    rw[this];rfl
  have k1:=OL (cw v.2.1) v.1 true hft;generalize hsf:(decide (w.leader=(v.1:Int))||!oM slow v.1)=sf;have hsf2:(bif decide ((v.1:Int)=w.leader) then true else !oM slow v.1)=sf:=by rw[←hsf,show decide ((v.1:Int)=w.leader)=decide (w.leader=(v.1:Int)) from Wl.2 ⟨Eq.symm,Eq.symm⟩];cases decide (w.leader=(v.1:Int))<;>rfl
  have hgk:=hs v.1 hk4;have hnk4:=hn v.1 hk4;have htk:=CC (w.s v.1) x sf hgk.gs.w hxw (by omega);have hst:=hv.stop hk4 hf hb hsf;have hnx:=fun a=>hv.next hk4 hf hb hsf a hxw (by omega) (by omega)
  (refine zW qs zn @hft (z1 ?_)<;>(repeat with_reducible intro hc))
  all_goals try exact zk3
  refine Xb [0,3,4,9,10,11,75] [] [.cells (wC (cw v.2.1) 1),.rows 7 (w.done.map ATxn.row),.cells [I kind,I (cl:Int),I server,I rq.op,I rq.session,S rq.path,S rq.data,I rq.version,I rq.flags,I lost,I slow,I keep,B watch],.cells [I 0,I 0,S [],S [],I 0,I 0,I 0,I 0,I 0,I 0,I 0,.d (.sc (.slice none 0 0))],.cells [I rq.op,I (w.c cl).session,S rq.path,S rq.data,I rq.version,I rq.flags],.cells [I x.zxid,I x.op,I x.session,S x.path,S x.data,I x.version,I x.owner],.rows 1 (v.2.2.map gO)] ?_ ?_
  ·cases hdb:decide ((v.1:Int)=w.leader)
   ·have hbl:oM lost v.1=false:=by
     rw[hdb] at hgo;simpa using hgo
    (refine zW qw (z1 KH) (zx @hvld (zx @hwu (zx @hbe (zx @hdb @hbl)))) (z2 ?_ ?_)<;>(repeat with_reducible intro hc))
    all_goals try exact zk1
    all_goals exact zFr [0,1,2,3,4,5,6] @k1
   ·(refine zW qw (z1 KH) (zx @hvld (zx @hwu (zx @hbe @hdb))) (z2 ?_ ?_)<;>(repeat with_reducible intro hc))
    all_goals try exact zk1
    all_goals exact zFr [0,1,2,3,4,5,6] @k1
  simp only[go_sem];generalize bg (w.s v.1) x sf=tk at htk hst hnx;obtain⟨t1,te⟩:=tk;simp only at htk hst hnx;cases hdb:decide ((v.1:Int)=w.leader)
  all_goals(
   rw[hdb] at hsf2;simp only[Vx,U0] at hsf2
   (repeat' first
|(with_reducible refine AR.f ?_)
|(with_reducible refine AWP.cond rfl ?_ ?_<;>intro hc<;>(try simp only[hcs,R1,Sa,Sb] at hc))
|((first|((first|(with_reducible first|refine zR ?_));intro K hK))<;>(try simp(disch:=omega) only[go_sem,aa,hft,hvld,hwu,hse,hdb])<;>(repeat' with_reducible refine Su ?_ ?_)<;>(try(with_reducible refine hK _ ?_;clear hK K)))
|omega)
   all_goals try exact zk3
   refine Xb [0,3,4,9,10,11,12,75] [(13,.ptr 7 0),(14,I te)] [.cells (wC (cw v.2.1) 1),.rows 7 (w.done.map ATxn.row),.cells [I kind,I (cl:Int),I server,I rq.op,I rq.session,S rq.path,S rq.data,I rq.version,I rq.flags,I lost,I slow,I keep,B watch],.cells [I 0,I 0,S [],S [],I 0,I 0,I 0,I 0,I 0,I 0,I 0,.d (.sc (.slice none 0 0))],.cells [I rq.op,I (w.c cl).session,S rq.path,S rq.data,I rq.version,I rq.flags],.cells [I x.zxid,I x.op,I x.session,S x.path,S x.data,I x.version,I x.owner],.rows 1 (v.2.2.map gO),.cells [B t1.up,.d (.sl 3 (t1.disk.files.map AFile.row)),I t1.peer.id,I t1.peer.epoch,.d (.sl 7 (t1.peer.log.map ATxn.row)),I t1.peer.done,I t1.tree.zxid,.d (.sl 9 (t1.tree.nodes.map XU.row)),.d (.sl 1 (t1.tree.sessions.map aY)),.d (.sl 3 (t1.watches.map AWatch.row))]] ?_ ?_
   ·(repeat' first
|(with_reducible refine AR.f ?_)
|(with_reducible refine AWP.cond rfl ?_ ?_<;>intro hc<;>(try simp only[hcs,R1,Sa,Sb] at hc))
|((first|((first|refine zP ((XS [0,1,2,3,4,5,6,7,8,9] .done)) ?_|refine zP ((XS [0,1,2,4] (.forks 3 (.fork 5 (.fork 6 (XS [7,8,9,10,11,12] .done) 10 (XS [6,7,8,9,11,12] .done)) 10 (XS [5,6,7,8,9,11,12] .done)) 5 (.fork 3 (.fork 6 (XS [7,8,9,10,11,12] .done) 10 (XS [6,7,8,9,11,12] .done)) 10 (XS [3,6,7,8,9,11,12] .done)) 10 (XS [3,5,6,7,8,9,11,12] .done)))) ?_|refine zP ((XS [0,1,2,3,4,5,6,7,8,9,11,17,18] (.fork 10 (XS [12,13,14,15,16,19,20] .done) 12 (XS [10,13,14,15,16,19,20] .done)))) ?_|refine zP ((XS [0,1,2,3,4,7] (.forks 5 (.fork 6 (.fork 8 (XS [9,10,11,12,13,14] .done) 12 (XS [8,9,10,11,13,14] .done)) 12 (XS [6,8,9,10,11,13,14] .done)) 6 (.fork 5 (.fork 8 (XS [9,10,11,12,13,14] .done) 12 (XS [8,9,10,11,13,14] .done)) 12 (XS [5,8,9,10,11,13,14] .done)) 12 (XS [5,6,8,9,10,11,13,14] .done)))) ?_|refine zP ((XS [0,1,2,3,4,5,6] .done)) ?_|(with_reducible first|refine zR ?_));intro K hK)|((first|refine zA htk ?_ ?_ ?_ ?_ ?_);(focus exact rfl);(focus exact rfl);iterate 2 (focus((try simp(disch:=omega) only[go_sem,aa,hs0])<;>(try omega)<;>fail)))|((first|refine zN htk rfl ?_ ?_|refine zX htk rfl ?_ ?_|refine zY htk ?_ ?_);(focus((try simp(disch:=omega) only[go_sem,aa,hs0])<;>(try omega)<;>fail))))<;>(try simp(disch:=omega) only[go_sem,aa,hs0])<;>(repeat' with_reducible refine Su ?_ ?_)<;>(try(with_reducible refine hK _ ?_;clear hK K)))
|omega)
    all_goals try exact zk1
    all_goals(refine zV [0,1,2,3,4,5,6,7] rfl rfl rfl rfl ?_ ?_<;>simp(disch:=omega) only[go_sem,aa,Ss]<;>(try rfl))
    all_goals exact congrArg (fun b=>AV.d (DV.bool b)) hsf2.symm
   simp only[go_sem]
   by_cases hte:te=0
   case neg=>
    have hF2:=hst hte;subst hF2;simp only[ne_eq,hte,R5,S9]
    (repeat' first
|(with_reducible refine AR.f ?_)
|(with_reducible refine AWP.cond rfl ?_ ?_<;>intro hc<;>(try simp only[hcs,R1,Sa,Sb] at hc))
|((first|((first|(with_reducible first|refine zR ?_));intro K hK))<;>(try simp(disch:=omega) only[go_sem,aa])<;>(repeat' with_reducible refine Su ?_ ?_)<;>(try(with_reducible refine hK _ ?_;clear hK K)))
|omega)
    all_goals try exact zk1
    all_goals(refine zOp @SI ?_;simp(disch:=omega) only[go_sem,aa,SI];exact Xe (r:=noR te) (rfl) rfl rfl (by rw[hv.d];rfl))
   subst hte
   (repeat' first
|(with_reducible refine AR.f ?_)
|(with_reducible refine AWP.cond rfl ?_ ?_<;>intro hc<;>(try simp only[hcs,R1,Sa,Sb] at hc))
|((first|((first|(with_reducible first|refine zR ?_));intro K hK))<;>(try simp(disch:=omega) only[go_sem,aa])<;>(repeat' with_reducible refine Su ?_ ?_)<;>(try(with_reducible refine hK _ ?_;clear hK K)))
|omega)
   all_goals try exact zk1
   have k2:=wo hv.l.sl hk4;refine Xb [0,3,4,9,10,11,12,75] [] [.cells (wC (cw (v.2.1.setS v.1 t1)) 1),.rows 7 (w.done.map ATxn.row),.cells [I kind,I (cl:Int),I server,I rq.op,I rq.session,S rq.path,S rq.data,I rq.version,I rq.flags,I lost,I slow,I keep,B watch],.cells [I 0,I 0,S [],S [],I 0,I 0,I 0,I 0,I 0,I 0,I 0,.d (.sc (.slice none 0 0))],.cells [I rq.op,I (w.c cl).session,S rq.path,S rq.data,I rq.version,I rq.flags],.cells [I x.zxid,I x.op,I x.session,S x.path,S x.data,I x.version,I x.owner],.rows 1 (v.2.2.map gO)] ?_ ?_
   ·(repeat' first
|(with_reducible refine AR.f ?_)
|(with_reducible refine AWP.cond rfl ?_ ?_<;>intro hc<;>(try simp only[hcs,R1,Sa,Sb] at hc))
|((first|((first|refine zP ((XS [0,1,2,3,4,5,6,7,8,9] .done)) ?_|refine zP ((XS [0,1,2,4] (.forks 3 (.fork 5 (.fork 6 (XS [7,8,9,10,11,12] .done) 10 (XS [6,7,8,9,11,12] .done)) 10 (XS [5,6,7,8,9,11,12] .done)) 5 (.fork 3 (.fork 6 (XS [7,8,9,10,11,12] .done) 10 (XS [6,7,8,9,11,12] .done)) 10 (XS [3,6,7,8,9,11,12] .done)) 10 (XS [3,5,6,7,8,9,11,12] .done)))) ?_|refine zP ((XS [0,1,2,3,4,5,6,7,8,9,11,17,18] (.fork 10 (XS [12,13,14,15,16,19,20] .done) 12 (XS [10,13,14,15,16,19,20] .done)))) ?_|refine zP ((XS [0,1,2,3,4,7] (.forks 5 (.fork 6 (.fork 8 (XS [9,10,11,12,13,14] .done) 12 (XS [8,9,10,11,13,14] .done)) 12 (XS [6,8,9,10,11,13,14] .done)) 6 (.fork 5 (.fork 8 (XS [9,10,11,12,13,14] .done) 12 (XS [8,9,10,11,13,14] .done)) 12 (XS [5,8,9,10,11,13,14] .done)) 12 (XS [5,6,8,9,10,11,13,14] .done)))) ?_|refine zP ((XS [0,1,2,3,4,5,6] .done)) ?_|(with_reducible first|refine zR ?_));intro K hK))<;>(try simp(disch:=omega) only[go_sem,aa])<;>(repeat' with_reducible refine Su ?_ ?_)<;>(try(with_reducible refine hK _ ?_;clear hK K)))
|omega)
    all_goals try exact zk1
    all_goals exact zFr [0,1,2,3,4,5,6] @k2
   simp only[go_sem];have hnx:=hnx (fun h=>h rfl);cases sf
   ·first
    |contradiction
    |skip
    all_goals(refine zW qs zn @hsf2 (z1 ?_)<;>(repeat with_reducible intro hc))
    all_goals try exact zk2
    all_goals refine⟨(v.1+1,v.2.1.setS v.1 t1,v.2.2),hnx,by simp only;omega,?_⟩
    all_goals exact zFr [0,1,2,3,4,5,6] Yj
   ·(repeat' first
|(with_reducible refine AR.f ?_)
|(with_reducible refine AWP.cond rfl ?_ ?_<;>intro hc<;>(try simp only[hcs,R1,Sa,Sb] at hc))
|((first|((first|(with_reducible first|refine zR ?_));intro K hK))<;>(try simp(disch:=omega) only[go_sem,aa,hsf2])<;>(repeat' with_reducible refine Su ?_ ?_)<;>(try(with_reducible refine hK _ ?_;clear hK K)))
|omega)
    all_goals try exact zk1
    refine⟨(v.1+1,v.2.1.setS v.1 t1,v.2.2++[v.1]),hnx,by simp only;omega,?_⟩
    exact zFr [0,1,2,3,4,5,8] (zx @List.map_append.{0,0} (zx @List.map_cons.{0,0} (zx @List.map_nil.{0,0} (zx @gO.eq_1 (zx @List.length_append.{0} (zx @List.length_cons.{0} @List.length_nil.{0})))))))
 have hF2:=hv.end hk4;subst hF2;simp only[ne_eq,Tp,Tj]
 by_cases hlt:v.2.2.length<2
 ·rw[RJ hlt]
  (refine zW qs (z2 (ic func107) (ic func108)) Yj (z1 ?_)<;>(repeat with_reducible intro hc))
  all_goals try exact zk3
  all_goals(refine zOp @SI ?_;simp(disch:=omega) only[go_sem,aa,SI];exact Xe (r:=⟨16,x.zxid,[],[],default,[]⟩) (iW _) rfl rfl (by show _=some (ABlk.rows 7 (v.2.1.done.map ATxn.row));rw[hv.d];rfl))
 rw[RI hlt];have hcc:∀ i,v.2.1.c i=w.c i:=fun i=>by show v.2.1.cl.getD i default=w.cl.getD i default;rw[hv.c]
 have hcm:=FE v.2.1 cl x v.2.2 ⟨hv.l,hv.sg,fun i hi=>by rw[hcc];exact hc16 i hi,by rw[hv.d];exact hdn,by rw[hv.ld];omega,⟨by omega,hh2⟩,hcl,by rw[hcc];exact hsx,hxw⟩ (cl:Int) rfl;unfold inW d6 avN at hcm;rw[hv.d] at hcm;generalize lP v.2.1 cl x v.2.2=R at hcm ⊢;obtain⟨w',r⟩:=R;simp only at hcm ⊢;have hnt:((v.2.2.map gO).drop 0).take v.2.2.length=v.2.2.map gO:=by rw[Tw];exact RK (by simp)
 refine Xa (Xs 10 6 (fun j hj=>⟨by omega,by rcases j with _|_|j<;>first|exact⟨_,rfl,by simp⟩|omega⟩) rfl rfl (by simp)) ?_;simp only[go_sem,hnt]
 (refine zW qs (z2 (ac [0,1] hcm) (ic func107)) Yj (z1 ?_)<;>(repeat with_reducible intro hc))
 all_goals try exact zk1
 refine zOp Yj ?_;simp(disch:=omega) only[go_sem,aa];exact Xn 7 8 (r:=r) rfl rfl rfl (by decide) rfl (by decide)
end Go.Proofs.YtjcooccnfkfjhaaGreatDoor
