/- What the law leans on. No condition. -/
import Derived.Test.YtjcooccnfkfjhaaGreatDoorRunK5b
namespace Go.Proofs.YtjcooccnfkfjhaaGreatDoor
set_option maxHeartbeats 16000000
set_option linter.unusedVariables false
set_option linter.unusedSimpArgs false
open Go Go.RowKit
set_option maxRecDepth 100000
def gz(l:List AFile):Int:=if(readD l epN).2≠0 then 0 else if(dv (readD l epN).1).2≠0 then 0 else epZ (dv (readD l epN).1).1
def ba(l:List AFile)(ep:Int):XQ×Int:=
 if(mkZ ep 0).2≠0 then(default,(mkZ ep 0).2) else
 if(aD (if(bo l epN).2=0 then(bo l epN).1.files else l) epN (fq (mkZ ep 0).1)).2≠0 then(default,(aD (if(bo l epN).2=0 then(bo l epN).1.files else l) epN (fq (mkZ ep 0).1)).2) else
 bj (aD (if(bo l epN).2=0 then(bo l epN).1.files else l) epN (fq (mkZ ep 0).1)).1.files epN lL
def cK(id:Int)(l:List AFile):XH×Int:=
 if id<0∨2<id then(default,3) else if(recoverD l).2.2≠0 then(default,(recoverD l).2.2) else(⟨true,(recoverD l).2.1,⟨id,gz l,(recoverD l).1,0⟩,t00,[]⟩,0)
def bp:List ATxn→List ATxn→Nat
 |x::a,y::b=>if x.zxid=y.zxid then bp a b+1 else 0
 |_,_=>0
def eV(s:XH):List ATxn→XH×Int
 |[]=>(s,0)
 |x::r=>if(bg s x true).2=0 then eV (bg s x true).1 r else(default,(bg s x true).2)
def d7(l:List ATxn)(k:Nat):Int:=if 0<k then(l.getD (k-1) default).zxid else -1
def aG(s:XH)(l:List ATxn)(ep:Int):XH×Int:=
 if(bp l s.peer.log:Int)<s.peer.done then(default,13) else
 if(keepD s.disk.files (d7 l (bp l s.peer.log))).2≠0 then(default,(keepD s.disk.files (d7 l (bp l s.peer.log))).2) else
 if(ba (keepD s.disk.files (d7 l (bp l s.peer.log))).1.files ep).2≠0 then(default,(ba (keepD s.disk.files (d7 l (bp l s.peer.log))).1.files ep).2) else
 eV ⟨s.up,(ba (keepD s.disk.files (d7 l (bp l s.peer.log))).1.files ep).1,⟨s.peer.id,ep,s.peer.log.take (bp l s.peer.log),s.peer.done⟩,s.tree,s.watches⟩ (l.drop (bp l s.peer.log))
theorem jk:∀(a b:List ATxn),bp a b≤a.length∧bp a b≤b.length
 |[],_=>⟨RI _,RI _⟩
 |_::_,[]=>⟨RI _,RI _⟩
 | x::a,y::b=>by
   have:=jk a b;unfold bp;split
   ·simp only[RD];omega
   ·exact⟨RI _,RI _⟩
theorem ol:∀(a b:List ATxn) (j:Nat),j<bp a b→(a.getD j default).zxid=(b.getD j default).zxid
 |[],_,_,h=>by simp[bp] at h
 |_::_,[],_,h=>by simp[bp] at h
 | x :: a,y::b,j,h=>by
   unfold bp at h;split at h
   ·rename_i e
    rcases j with _|j
    ·exact e
    ·simpa using ol a b j (by omega)
   ·omega
theorem mA{ep:Int}(h0:0≤ep)(h1:ep≤2147483647):mkZ ep 0=(ep*2147483648,0)∧bd (ep*2147483648)∧epZ (ep*2147483648)=ep:=by
 have hg:bd (ep*2147483648):=by unfold bd;omega
 refine⟨?_,hg,?_⟩
 ·unfold mkZ;rw[Rw (by unfold lZ;omega)];simp
 ·unfold epZ;rw[Rx hg];omega
def epB(ep:Int):List UInt8:=fq (ep*2147483648)
theorem y3{ep:Int}(h0:0≤ep)(h1:ep≤2147483647):(epB ep).length≤21:=xP (mA h0 h1).2.1
theorem Ig{ep:Int}(h0:0≤ep)(h1:ep≤2147483647){s t:List UInt8}(h:s.length+t.length≤1048576):gz (mkD (some (epB ep)) s t)=ep:=by obtain⟨_,g2,g3⟩:=mA h0 h1;have hl:=y3 h0 h1;have hr:=IE (x:=epB ep) (s:=s) (t:=t) ⟨fun x hx=>by injection hx with hx;subst hx;omega,h⟩;have hz:dv (epB ep)=(ep*2147483648,0):=Fy g2;unfold gz;rw[hr,Rw (fun h=>h rfl),hz,Rw (fun h=>h rfl)];exact g3
theorem Cu{s t:List UInt8}(h:s.length+t.length≤1048576):gz (mkD none s t)=0:=by have hr:=HF (s:=s) (t:=t) ⟨(fun x hx=>by cases hx),h⟩;unfold gz;rw[hr,Rx (by decide)]
theorem BD{ep:Int}(h0:0≤ep)(h1:ep≤2147483647){e:Option (List UInt8)}{s t:List UInt8}(h:okD e s t):ba (mkD e s t) ep=(⟨mkD (some (epB ep)) s t⟩,0):=by
 obtain⟨g1,g2,_⟩:=mA h0 h1;have hl:=y3 h0 h1;have hn:okD none s t:=⟨fun x hx=>(by cases hx),h.2⟩
 have hrm:(if(bo (mkD e s t) epN).2=0 then(bo (mkD e s t) epN).1.files else mkD e s t)=mkD none s t:=by
  cases e with
  |none=>rw[Du hn,Rw (by decide)]
  |some x=>rw[Dd h,Rx rfl]
 unfold ba;rw[g1,Rw (fun h=>h rfl),hrm];simp only;rw[show fq (ep*2147483648)=epB ep from rfl,Ir hn (by omega),Rw (fun h=>h rfl)];exact NG hn (by omega)
theorem yS{l:List ATxn}(h:logOk l)(k:Nat)(hk:k≤l.length){z:Int}(hz:if 0<k then(l.getD (k-1) default).zxid=z else z=-1):keepL l z=l.take k:=by
 have h0:∀ j,j<l.length→0≤(l.getD j default).zxid:=fun j hj=>(fU (h.2 _ (aZ l j hj))).1.1
 refine uj h hk (fun j hj=>?_) (fun hlt=>?_)
 ·rw[Rx (by omega)] at hz
  by_cases e:j=k-1
  ·subst e;omega
  ·have:=jz h (show j<k-1 by omega) (by omega)
   omega
 ·by_cases hk0:0<k
  ·rw[Rx hk0] at hz
   have:=jz h (show k-1<k by omega) hlt;omega
  ·rw[Rw hk0] at hz
   have:=h0 k hlt;omega
theorem KY{x:ATxn}{r:List ATxn}{v:XI}(h:cu t00 (x::r)=some v):0<x.zxid:=by
 rw[cu] at h;split at h
 ·rename_i he
  unfold ah at he;split at he
  ·rename_i hw;exact absurd he hw
  ·rename_i hw
   have:=(cp (Tn.1 hw)).2.2.1;exact this
 ·cases h
theorem XV.takes:∀(r:List ATxn) {s:XH} {e:Option (List UInt8)},XV s e s.peer.log.length→logOk (s.peer.log++r)→(encs (s.peer.log++r)).length≤1048576→(∃ v,cu t00 (s.peer.log++r)=some v)→
  ∃ d,eV s r=(⟨s.up,d,⟨s.peer.id,s.peer.epoch,s.peer.log++r,s.peer.done⟩,s.tree,s.watches⟩,0)∧XV ⟨s.up,d,⟨s.peer.id,s.peer.epoch,s.peer.log++r,s.peer.done⟩,s.tree,s.watches⟩ e (s.peer.log++r).length
 |[],s,e,h,_,_,_=>⟨s.disk,by rw[R5];rfl,by rw[R5];exact h⟩
 | x :: r,s,e,h,ho,hl,hp=>by
   have hx:aT x=0:=ho.2 x (by simp)
   have hz:aA s.peer.log<x.zxid:=by
    by_cases h0:0<s.peer.log.length
    ·rw[dQ h0]
     have:=jz ho (i:=s.peer.log.length-1) (j:=s.peer.log.length) (by omega) (by simp);rw[Ru,RO (by omega),←Ru,Ru (i:=s.peer.log.length),RG (RE _),Tl] at this;exact this
    ·have hn:s.peer.log=[]:=R2 (by omega)
     obtain⟨v,hv⟩:=hp;rw[hn,Sp] at hv;rw[hn,gK];exact KY hv
   have hl1:(encs s.peer.log).length+(cE x).1.length≤1048576:=by rw[AD,eC,Ry,Ry] at hl;omega
   have hp1:∃ v,cu t00 (s.peer.log++[x])=some v:=by
    obtain⟨v,hv⟩:=hp
    have:=lr hv (s.peer.log.length+1);rwa[V9,Rz (by omega),Wa,S3,S4] at this
   obtain⟨d,t1,t2⟩:=h.take hx hz hl1 hp1 true;rw[Rx rfl] at t2;have e1:s.peer.log++x::r=(s.peer.log++[x])++r:=by simp
   obtain⟨d2,q1,q2⟩:=XV.takes r (s:=⟨s.up,d,⟨s.peer.id,s.peer.epoch,s.peer.log++[x],s.peer.done⟩,s.tree,s.watches⟩) (e:=e) (by simp only[Ry,Sj];exact t2) (by simp only;rw[←e1];exact ho) (by simp only;rw[←e1];exact hl) (by simp only;rw[←e1];exact hp);simp only at q1 q2;rw[←e1] at q1 q2;exact⟨d2,by rw[eV,t1,Rx rfl];exact q1,q2⟩
theorem XV.follow{s:XH}{e:Option (List UInt8)}{a:Nat}(h:XV s e a){l:List ATxn}(ho:logOk l)(hl:(encs l).length≤1048576)(hp:∃ v,cu t00 l=some v){ep:Int}(h0:0≤ep)(h1:ep≤2147483647)
  (hm:l.take (bp l s.peer.log)=s.peer.log.take (bp l s.peer.log)) (hd:s.peer.done≤bp l s.peer.log) :
  ∃ d,aG s l ep=(⟨s.up,d,⟨s.peer.id,ep,l,s.peer.done⟩,s.tree,s.watches⟩,0)∧XV ⟨s.up,d,⟨s.peer.id,ep,l,s.peer.done⟩,s.tree,s.watches⟩ (some (epB ep)) l.length:=by
 obtain⟨k1,k2⟩:=jk l s.peer.log;have ke:=ol l s.peer.log;have hd0:=h.d0;unfold aG;generalize bp l s.peer.log=k at k1 k2 ke hm hd ⊢
 have hkeep:keepD s.disk.files (d7 l k)=(⟨mkD e (encs (s.peer.log.take k)) []⟩,0):=by
  rw[h.disk,MN h.okD,gG,h.scan];simp only;rw[yS h.log k k2];unfold d7;split
  ·exact(ke (k-1) (by omega)).symm
  ·rfl
 have hsm:(encs (s.peer.log.take k)).length≤1048576:=RW (gV _ _) h.small;have hrem:=BD (ep:=ep) h0 h1 (e:=e) (s:=encs (s.peer.log.take k)) (t:=[]) ⟨h.elen,by simpa using hsm⟩;rw[Rw (by omega),hkeep,Rw (fun h=>h rfl),hrem,Rw (fun h=>h rfl)];have hep:=y3 h0 h1
 have hu:XV ⟨s.up,⟨mkD (some (epB ep)) (encs (s.peer.log.take k)) []⟩,⟨s.peer.id,ep,s.peer.log.take k,s.peer.done⟩,s.tree,s.watches⟩ (some (epB ep)) (s.peer.log.take k).length:=by
  refine⟨h.up,?_,RE _,oH h.log k,hsm,fun x hx=>by injection hx with hx;subst hx;omega,hd0,?_,?_,?_⟩
  ·simp only;rw[RU,Tt,fF]
  ·simp only;rw[RH];omega
  ·simp only;rw[TF,Sq (by omega)];exact h.tree
  ·obtain⟨v,hv⟩:=h.play;exact lr hv k
 have hj:s.peer.log.take k++l.drop k=l:=by rw[←hm,SA]
 obtain⟨d,q1,q2⟩:=XV.takes (l.drop k) hu (by simp only;rw[hj];exact ho) (by simp only;rw[hj];exact hl) (by simp only;rw[hj];exact hp);simp only at q1 q2;rw[hj] at q1 q2;exact⟨d,q1,q2⟩
structure AWorld where
 sv:List XH
 cl:List XM
 leader:Int
 fl:List Bool
 done:List ATxn
 deeds:Int
namespace AWorld
def s(w:AWorld)(i:Nat):XH:=w.sv.getD i default
def c(w:AWorld)(i:Nat):XM:=w.cl.getD i default
def f(w:AWorld)(i:Nat):Bool:=w.fl.getD i false
def setS(w:AWorld)(i:Nat)(s:XH):AWorld:={ w with sv:=w.sv.set i s }
def setC(w:AWorld)(i:Nat)(c:XM):AWorld:={ w with cl:=w.cl.set i c }
def setF(w:AWorld)(i:Nat)(b:Bool):AWorld:={ w with fl:=w.fl.set i b }
def resign(w:AWorld):AWorld:={ w with leader:=-1,fl:=[false,false,false] }
end AWorld
def gE:AWorld:=⟨(List.range 3).map fun(i:Nat)=>(cK (i:Int) []).1,(List.range 16).map fun(i:Nat)=>⟨(i:Int)+1,0,[]⟩,-1,[false,false,false],[],0⟩
def noR(e:Int):XN:=⟨e,0,[],[],default,[]⟩
def oP(n:Int)(i:Nat):Bool:=decide ((n/2^i)%2=1)
def iu(w:AWorld)(i:Nat)(keep:Int):AWorld×XN:=
 if(w.s i).up=false then(w,noR 14) else
 if(bR (w.s i) keep).2≠0 then(w,noR (bR (w.s i) keep).2) else
 (if w.leader=i then((w.setS i (bR (w.s i) keep).1).setF i false).resign else(w.setS i (bR (w.s i) keep).1).setF i false,noR 0)
def upW(w:AWorld)(i:Nat):AWorld×XN:=
 if(w.s i).up=true then(w,noR 8) else
 if(cK i (w.s i).disk.files).2≠0 then(w,noR (cK i (w.s i).disk.files).2) else
 (w.setS i (cK i (w.s i).disk.files).1,noR 0)
def dq(w:AWorld)(ns:List XJ):AWorld:={ w with cl:=w.cl.map fun c=>⟨c.session,c.seen,dS c.session c.cache ns⟩ }
def bH(l:List ATxn)(ep:Int):List Nat→AWorld→List XJ→AWorld×List XJ×Int
 |[],w,ns=>(w,ns,0)
 | i::r,w,ns=>
   if(w.s i).up=false then bH l ep r w ns else
   if(aG (w.s i) l ep).2≠0 then(w,ns,(aG (w.s i) l ep).2) else
   if(au (aG (w.s i) l ep).1 l.length).2.2≠0 then(w,ns,(au (aG (w.s i) l ep).1 l.length).2.2) else
   bH l ep r ((w.setS i (au (aG (w.s i) l ep).1 l.length).1).setF i true) (ns++(au (aG (w.s i) l ep).1 l.length).2.1)
def bS(w:AWorld):List XP:=(w.sv.filter fun s=>s.up).map XH.peer
def dj(w:AWorld):AWorld×XN:=
 if(bQ (bS w)).2.2≠0 then(w,noR (bQ (bS w)).2.2) else
 let b:=(bS w).getD (bQ (bS w)).1.toNat default
 let r:=bH b.log (bQ (bS w)).2.1 [0,1,2] w.resign []
 if r.2.2≠0 then(r.1,noR r.2.2) else
 (dq { r.1 with leader:=b.id } r.2.1,⟨0,aA b.log,[],[],default,r.2.1⟩)
def bW(x:ATxn)(lead lost slow:Int):List Nat→AWorld→List Nat→AWorld×List Nat×Int
 |[],w,hv=>(w,hv,0)
 | i::r,w,hv=>
   if w.f i=false then bW x lead lost slow r w hv else
   if ¬ lead=i∧oP lost i=true then bW x lead lost slow r (w.setF i false) hv else
   if(bg (w.s i) x (decide (lead=i)||!oP slow i)).2≠0 then(w,hv,(bg (w.s i) x (decide (lead=i)||!oP slow i)).2) else
   bW x lead lost slow r (w.setS i (bg (w.s i) x (decide (lead=i)||!oP slow i)).1) (if decide (lead=i)||!oP slow i then hv++[i] else hv)
def bn:List Nat→AWorld→List XJ→AWorld×List XJ×Int
 |[],w,ns=>(w,ns,0)
 | i::r,w,ns=>
   if(au (w.s i) (w.s i).peer.log.length).2.2≠0 then(w,ns,(au (w.s i) (w.s i).peer.log.length).2.2) else
   bn r (w.setS i (au (w.s i) (w.s i).peer.log.length).1) (ns++(au (w.s i) (w.s i).peer.log.length).2.1)
def lN(w:AWorld)(who:Nat)(x:ATxn)(hv:List Nat):AWorld×XN:=
 let r:=bn hv w []
 if r.2.2≠0 then(r.1,noR r.2.2) else
 let u:=dq { r.1 with done:=r.1.done++[x] } r.2.1
 if(gw (u.c who) x.zxid).2≠0 then(u,noR (gw (u.c who) x.zxid).2) else
 (u.setC who (gw (u.c who) x.zxid).1,⟨0,x.zxid,x.path,[],(aw (u.s u.leader.toNat).tree x.path).1.stat,r.2.1⟩)
def kC(w:AWorld)(d:XO):XK:=⟨d.request.op,(w.c d.client.toNat).session,d.request.path,d.request.data,d.request.version,d.request.flags⟩
def dx(w:AWorld)(d:XO):AWorld×XN:=
 if d.client<0∨16≤d.client then(w,noR 3) else
 if w.leader<0 then(w,noR 14) else
 if(cD (w.s w.leader.toNat).peer).2≠0 then(w,noR (cD (w.s w.leader.toNat).peer).2) else
 let p:=bA (w.s w.leader.toNat).tree (cD (w.s w.leader.toNat).peer).1 (kC w d)
 if p.2≠0 then(w,noR p.2) else
 let r:=bW p.1 w.leader d.lost d.slow [0,1,2] w []
 if r.2.2≠0 then(r.1,noR r.2.2) else
 if r.2.1.length<2 then(r.1.resign,⟨16,p.1.zxid,[],[],default,[]⟩) else
 lN r.1 d.client.toNat p.1 r.2.1
def ib(w:AWorld)(d:XO):AWorld×XN:=
 if d.client<0∨16≤d.client∨d.server<0∨3≤d.server then(w,noR 3) else
 let i:=d.server.toNat
 let k:=d.client.toNat
 if(w.s i).up=false then(w,noR 14) else
 if(gw (w.c k) (w.s i).tree.zxid).2≠0 then(w,noR (gw (w.c k) (w.s i).tree.zxid).2) else
 let c:=(gw (w.c k) (w.s i).tree.zxid).1
 let n:=aw (w.s i).tree d.request.path
 if d.watch=true then
  let a:=jE (w.s i).watches ⟨c.session,1,d.request.path⟩
  if a.2≠0 then(w,noR a.2) else
  ((w.setS i { w.s i with watches:=a.1 }).setC k ⟨c.session,c.seen,fO c.cache ⟨d.request.path,n.1.data,decide (n.2=0)⟩⟩,
   ⟨n.2,(w.s i).tree.zxid,n.1.path,n.1.data,n.1.stat,[]⟩)
 else(w.setC k c,⟨n.2,(w.s i).tree.zxid,n.1.path,n.1.data,n.1.stat,[]⟩)
def qW(w:AWorld)(d:XO):AWorld×XN:=
 if d.kind=1 then dx w d else if d.kind=2 then ib w d else if d.kind=5 then dj w else
 if d.kind=3∨d.kind=4 then
  if d.server<0∨3≤d.server then(w,noR 3) else if d.kind=4 then upW w d.server.toNat else iu w d.server.toNat d.keep
 else(w,noR 4)
def doW(w:AWorld)(d:XO):AWorld×XN:=
 if 300≤w.deeds then(w,noR 6) else qW { w with deeds:=w.deeds+1 } d
structure Gh where
 D:List ATxn
 a:Nat
 E:Int
def Two(P:Nat→Prop):Prop:=∃ i j,i<3∧j<3∧i≠j∧P i∧P j
theorem Two.mono{P Q:Nat→Prop}(h:Two P)(hq:∀ i,i<3→P i→Q i):Two Q:=by obtain⟨i,j,h1,h2,h3,h4,h5⟩:=h;exact⟨i,j,h1,h2,h3,hq i h1 h4,hq j h2 h5⟩
theorem Two.meet{P Q:Nat→Prop}(h:Two P)(h2:Two Q):∃ i,i<3∧P i∧Q i:=by
 obtain⟨i,j,a1,a2,a3,a4,a5⟩:=h;obtain⟨k,m,b1,b2,b3,b4,b5⟩:=h2
 by_cases e1:i=k
 ·subst e1;exact⟨i,a1,a4,b4⟩
 by_cases e2:i=m
 ·subst e2;exact⟨i,a1,a4,b5⟩
 by_cases e3:j=k
 ·subst e3;exact⟨j,a2,a5,b4⟩
 have e4:j=m:=by omega
 subst e4;exact⟨j,a2,a5,b5⟩
def Old(ld es:Int)(L:List ATxn)(n:Nat)(z:Int):Prop:=0≤z∧z/2147483648≤es∧z%2147483648≤n∧(0≤ld→z/2147483648<es∨z≤aA L)
structure Pr (g:Nat→Gh) (ld es:Int) (K:List ATxn) (n:Nat):Prop where
 log:∀ j,j<3→logOk (g j).D
 al:∀ j,j<3→(g j).a≤(g j).D.length
 pos:∀ j,j<3→∀ x,x∈(g j).D→0<x.zxid
 old:∀ j,j<3→∀ x,x∈(g j).D→Old ld es (g ld.toNat).D n x.zxid
 es0:0≤es
 esn:es≤n
 E0:∀ j,j<3→0≤(g j).E∧(g j).E≤n
 q:Two fun j=>es≤(g j).E
 one:∀ i j,i<3→j<3→∀ x y,x∈(g i).D→y∈(g j).D→x.zxid=y.zxid→x=y
 k1:Two fun j=>K <+: (g j).D∧K.length≤(g j).a
 k2:∀ j,j<3→aA K≤aA (g j).D→K <+: (g j).D
 k3:0≤ld→K <+: (g ld.toNat).D
 ld0:0≤ld→ld<3∧(g ld.toNat).E=es
def upd(g:Nat→Gh)(j:Nat)(x:Gh):Nat→Gh:=fun i=>if i=j then x else g i
theorem dG(g:Nat→Gh)(j:Nat)(x:Gh):upd g j x j=x:=by unfold upd;rw[Rx rfl]
theorem cc(g:Nat→Gh){j i:Nat}(x:Gh)(h:i≠j):upd g j x i=g i:=by unfold upd;rw[Rw h]
theorem gh{l:List ATxn}(h:l≠[]):∃ x,x∈l∧x.zxid=aA l:=by have hp:=TJ.2 h;exact⟨_,aZ l (l.length-1) (by omega),(dQ hp).symm⟩
theorem po{l:List ATxn}(h:logOk l){x:ATxn}(hx:x∈l):x.zxid≤aA l:=by
 obtain⟨k,hk,rfl⟩:=Ta hx;rw[dQ (by omega)];have e:l[k]=l.getD k default:=by rw[Ru,Rv hk];rfl
 rw[e]
 by_cases h2:k=l.length-1
 ·subst h2;exact Su _
 ·exact UC (jz h (by omega) (by omega))
theorem fe{l:List ATxn}(h:∀ x,x∈l→0<x.zxid):0≤aA l:=by
 by_cases e:l=[]
 ·subst e;exact Su _
 ·obtain⟨x,h1,h2⟩:=gh e
  have:=h x h1;omega
theorem Ea{l:List ATxn}(h:logOk l)(hp:∀ x,x∈l→0<x.zxid)(k:Nat):aA (l.take k)≤aA l:=by
 by_cases e:l.take k=[]
 ·rw[e];exact fe hp
 ·obtain⟨x,h1,h2⟩:=gh e
  rw[←h2];exact po h (Sf h1)
theorem Ju{l K:List ATxn}(h:logOk l)(hp:∀ x,x∈l→0<x.zxid)(hK:K <+: l){k:Nat}(hz:aA K≤aA (l.take k)):K <+: l.take k:=by
 have e:=Uu.1 hK;have hl:=hK.length_le;refine Uu.2 ?_
 by_cases hk:K.length≤k
 ·rw[TF,Sq hk];exact e
 ·exfalso
  have hK0:0<K.length:=by omega
  have z1:aA K=(l.getD (K.length-1) default).zxid:=by obtain⟨t,ht⟩:=hK;rw[←ht,dQ hK0,Ru,Ru,RO (by omega)]
  by_cases hk0:0<k
  ·have hlen:(l.take k).length=k:=by rw[RH];omega
   have z2:aA (l.take k)=(l.getD (k-1) default).zxid:=by rw[dQ (by omega),hlen,Ru,SZ,Rx (by omega),←Ru]
   have:=jz h (i:=k-1) (j:=K.length-1) (by omega) (by omega);omega
  ·have hk':k=0:=by omega
   subst hk';rw[S4,gK,z1] at hz
   have:=hp _ (aZ l (K.length-1) (by omega));omega
theorem Old.gone{ld es:Int}{L:List ATxn}{n:Nat}{z:Int}(h:Old ld es L n z)(L2:List ATxn):Old (-1) es L2 n z:=⟨h.1,h.2.1,h.2.2.1,fun h=>absurd h (by decide)⟩
theorem Old.up{ld es:Int}{L:List ATxn}{n m:Nat}{z:Int}(h:Old ld es L n z)(hm:n≤m):Old ld es L m z:=⟨h.1,h.2.1,by have:=h.2.2.1;omega,h.2.2.2⟩
theorem Old.lead{ld es:Int}{L:List ATxn}{n:Nat}{z:Int}(h:Old ld es L n z){b ep:Int}(he:es<ep)(L2:List ATxn):Old b ep L2 n z:=⟨h.1,by have:=h.2.1;omega,h.2.2.1,fun _=>.inl (by have:=h.2.1;omega)⟩
theorem Old.more{ld es:Int}{L:List ATxn}{n:Nat}{z:Int}(h:Old ld es L n z){L2:List ATxn}(hl:aA L≤aA L2):Old ld es L2 n z:=⟨h.1,h.2.1,h.2.2.1,fun h0=>(h.2.2.2 h0).imp id fun h1=>by omega⟩
theorem Pr.mono{g:Nat→Gh}{ld es:Int}{K:List ATxn}{n m:Nat}(h:Pr g ld es K n)(hm:n≤m):Pr g ld es K m:=
 { h with
   old:=fun j hj x hx=>(h.old j hj x hx).up hm
   esn:=by have:=h.esn;omega
   E0:=fun j hj=>⟨(h.E0 j hj).1,by have:=(h.E0 j hj).2;omega⟩ }
theorem Pr.resign{g:Nat→Gh}{ld es:Int}{K:List ATxn}{n:Nat}(h:Pr g ld es K n):Pr g (-1) es K n:=
 { h with
   old:=fun j hj x hx=>(h.old j hj x hx).gone _
   k3:=fun h=>absurd h (by decide)
   ld0:=fun h=>absurd h (by decide) }
theorem Pr.cut{g:Nat→Gh}{ld es:Int}{K:List ATxn}{n:Nat}(h:Pr g ld es K n){j:Nat}(hj:j<3)(hd:0≤ld→ld.toNat≠j){k:Nat}(h1:(g j).a≤k)(h2:k≤(g j).D.length):Pr (upd g j ⟨(g j).D.take k,k,(g j).E⟩) ld es K n:=by
 have hm:∀ i,i<3→∀ x,x∈(upd g j ⟨(g j).D.take k,k,(g j).E⟩ i).D→x∈(g i).D:=fun i hi x hx=>by
  by_cases e:i=j
  ·subst e;rw[dG] at hx;exact Sf hx
  ·rwa[cc _ _ e] at hx
 have hE:∀ i,(upd g j ⟨(g j).D.take k,k,(g j).E⟩ i).E=(g i).E:=fun i=>by
  by_cases e:i=j
  ·subst e;rw[dG]
  ·rw[cc _ _ e]
 have hO:∀{z:Int},Old ld es (g ld.toNat).D n z→Old ld es (upd g j ⟨(g j).D.take k,k,(g j).E⟩ ld.toNat).D n z:=fun{z} hz=>by
  by_cases e:0≤ld
  ·rw[cc _ _ (hd e)];exact hz
  ·exact⟨hz.1,hz.2.1,hz.2.2.1,fun h0=>absurd h0 e⟩
 refine⟨fun i hi=>?_,fun i hi=>?_,fun i hi x hx=>h.pos i hi x (hm i hi x hx),fun i hi x hx=>hO (h.old i hi x (hm i hi x hx)),h.es0,h.esn,fun i hi=>by rw[hE];exact h.E0 i hi,h.q.mono fun i _ hi=>by rw[hE];exact hi,
  fun i i2 hi hi2 x y hx hy=>h.one i i2 hi hi2 x y (hm i hi x hx) (hm i2 hi2 y hy),h.k1.mono fun i hi hk=>?_,fun i hi hz=>?_,fun h0=>by rw[cc _ _ (hd h0)];exact h.k3 h0,fun h0=>by rw[hE];exact h.ld0 h0⟩
 ·by_cases e:i=j
  ·subst e;rw[dG];exact oH (h.log i hi) k
  ·rw[cc _ _ e];exact h.log i hi
 ·by_cases e:i=j
  ·subst e;rw[dG];simp only;rw[RH];omega
  ·rw[cc _ _ e];exact h.al i hi
 ·by_cases e:i=j
  ·subst e;rw[dG]
   refine⟨?_,by simp only;omega⟩;have e2:=Uu.1 hk.1;refine Uu.2 ?_;simp only;rw[TF,Sq (by omega)];exact e2
  ·rw[cc _ _ e];exact hk
 ·by_cases e:i=j
  ·subst e;rw[dG] at hz ⊢
   exact Ju (h.log i hi) (h.pos i hi) (h.k2 i hi (T0 hz (Ea (h.log i hi) (h.pos i hi) k))) hz
  ·rw[cc _ _ e] at hz ⊢;exact h.k2 i hi hz
theorem Pr.follow{g:Nat→Gh}{es:Int}{K:List ATxn}{n:Nat}(h:Pr g (-1) es K n){j b:Nat}(hj:j<3)(hb:b<3)(hK:K <+: (g b).D){ep:Int}(h1:es<ep)(h2:ep≤n):Pr (upd g j ⟨(g b).D,(g b).D.length,ep⟩) (-1) es K n:=by
 have hm:∀ i,i<3→∃ i2,i2<3∧(upd g j ⟨(g b).D,(g b).D.length,ep⟩ i).D=(g i2).D:=fun i hi=>by
  by_cases e:i=j
  ·subst e;rw[dG];exact⟨b,hb,rfl⟩
  ·rw[cc _ _ e];exact⟨i,hi,rfl⟩
 refine⟨fun i hi=>?_,fun i hi=>?_,fun i hi x hx=>?_,fun i hi x hx=>?_,h.es0,h.esn,fun i hi=>?_,h.q.mono fun i _ hi=>?_,fun i i2 hi hi2 x y hx hy=>?_,h.k1.mono fun i hi hk=>?_,fun i hi hz=>?_,fun h0=>absurd h0 (by decide),fun h0=>absurd h0 (by decide)⟩
 ·obtain⟨m,q1,q2⟩:=hm i hi;rw[q2];exact h.log m q1
 ·by_cases e:i=j
  ·subst e;rw[dG];exact RE _
  ·rw[cc _ _ e];exact h.al i hi
 ·obtain⟨m,q1,q2⟩:=hm i hi;rw[q2] at hx;exact h.pos m q1 x hx
 ·obtain⟨m,q1,q2⟩:=hm i hi;rw[q2] at hx;exact(h.old m q1 x hx).gone _
 ·by_cases e:i=j
  ·subst e;rw[dG];have:=h.es0;exact⟨by simp only;omega,h2⟩
  ·rw[cc _ _ e];exact h.E0 i hi
 ·by_cases e:i=j
  ·subst e;rw[dG];exact UC h1
  ·rw[cc _ _ e];exact hi
 ·obtain⟨m,q1,q2⟩:=hm i hi;obtain⟨m2,q3,q4⟩:=hm i2 hi2
  rw[q2] at hx;rw[q4] at hy;exact h.one m m2 q1 q3 x y hx hy
 ·by_cases e:i=j
  ·subst e;rw[dG];exact⟨hK,hK.length_le⟩
  ·rw[cc _ _ e];exact hk
 ·by_cases e:i=j
  ·subst e;rw[dG];exact hK
  ·rw[cc _ _ e] at hz ⊢;exact h.k2 i hi hz
theorem Pr.lead{g:Nat→Gh}{es:Int}{K:List ATxn}{n:Nat}(h:Pr g (-1) es K n){ep:Int}(h1:es<ep)(h2:ep≤n)(hq:Two fun j=>ep≤(g j).E){b:Nat}(hb:b<3)(hE:(g b).E=ep)(hK:K <+: (g b).D):Pr g b ep K n:=
 { h with
   old:=fun j hj x hx=>(h.old j hj x hx).lead h1 _
   es0:=by have:=h.es0;omega
   esn:=h2
   q:=hq
   k3:=fun _=>hK
   ld0:=fun _=>⟨by omega,hE⟩ }
theorem Pr.best{g:Nat→Gh}{ld es:Int}{K:List ATxn}{n:Nat}(h:Pr g ld es K n){U:Nat→Prop}(hU:Two U){b:Nat}(hb:b<3)(hm:∀ j,j<3→U j→aA (g j).D≤aA (g b).D):K <+: (g b).D:=by
 obtain⟨i,h1,h2,h3⟩:=hU.meet h.k1;refine h.k2 b hb (T0 ?_ (hm i h1 h2))
 by_cases e:K=[]
 ·subst e;exact fe (h.pos i h1)
 ·obtain⟨x,q1,q2⟩:=gh e
  rw[←q2];exact po (h.log i h1) (h3.1.subset q1)
theorem Pr.epoch{g:Nat→Gh}{ld es:Int}{K:List ATxn}{n:Nat}(h:Pr g ld es K n){U:Nat→Prop}(hU:Two U){ep:Int}(hm:∀ j,j<3→U j→(g j).E<ep):es<ep:=by
 obtain⟨i,h1,h2,h3⟩:=hU.meet h.q
 have:=hm i h1 h2;omega
theorem Pr.new{g:Nat→Gh}{ld es:Int}{K:List ATxn}{n:Nat}(h:Pr g ld es K n)(h0:0≤ld){z:Int}(h1:z/2147483648=es)(h2:aA (g ld.toNat).D<z){j:Nat}(hj:j<3):(∀ y,y∈(g j).D→y.zxid<z)∧aA (g j).D<z:=by
 have ha:∀ y,y∈(g j).D→y.zxid<z:=fun y hy=>by rcases(h.old j hj y hy).2.2.2 h0 with h3|h3<;>omega
 refine⟨ha,?_⟩
 by_cases e:(g j).D=[]
 ·have:=fe (h.pos ld.toNat (by have:=h.ld0 h0;omega))
  rw[e,gK];omega
 ·obtain⟨x,q1,q2⟩:=gh e
  rw[←q2];exact ha x q1
theorem Pr.took{g g':Nat→Gh}{ld es:Int}{K:List ATxn}{n:Nat}(h:Pr g ld es K n)(h0:0≤ld){x:ATxn}(hx:aT x=0)(h1:x.zxid/2147483648=es)(h2:aA (g ld.toNat).D<x.zxid)(h3:x.zxid%2147483648≤n)
  (hT:∀ j,j<3→((g j).D=(g ld.toNat).D∧(g' j).D=(g ld.toNat).D++[x]∧(g j).a≤(g' j).a∧(g' j).a≤(g' j).D.length)∨((g' j).D=(g j).D∧(g' j).a=(g j).a)) (hE:∀ j,j<3→(g' j).E=(g j).E):Pr g' (-1) es K n:=by
 have hld:=h.ld0 h0;have hl3:ld.toNat<3:=by omega
 have hz0:=fe (h.pos ld.toNat hl3)
 have hm:∀ j,j<3→∀ y,y∈(g' j).D→y=x∨y∈(g j).D:=fun j hj y hy=>by
  rcases hT j hj with⟨a1,a2,_⟩|⟨a1,_⟩
  ·rw[a2] at hy;rw[a1]
   rcases Sh.1 hy with q|q
   ·exact .inr q
   ·exact .inl (SM.1 q)
  ·rw[a1] at hy;exact .inr hy
 refine⟨fun j hj=>?_,fun j hj=>?_,fun j hj y hy=>?_,fun j hj y hy=>?_,h.es0,h.esn,fun j hj=>by rw[hE j hj];exact h.E0 j hj,h.q.mono fun j hj hi=>by rw[hE j hj];exact hi,fun i j hi hj y v hy hv e=>?_,h.k1.mono fun j hj hk=>?_,fun j hj hz=>?_,fun h0=>absurd h0 (by decide),fun h0=>absurd h0 (by decide)⟩
 ·rcases hT j hj with⟨a1,a2,_⟩|⟨a1,_⟩
  ·rw[a2];exact kZ (h.log _ hl3) (fun _=>h2) hx
  ·rw[a1];exact h.log j hj
 ·rcases hT j hj with⟨a1,a2,a3,a4⟩|⟨a1,a2⟩
  ·exact a4
  ·rw[a1,a2];exact h.al j hj
 ·rcases hm j hj y hy with rfl|q
  ·omega
  ·exact h.pos j hj y q
 ·rcases hm j hj y hy with rfl|q
  ·exact⟨by omega,by omega,h3,fun h=>absurd h (by decide)⟩
  ·exact(h.old j hj y q).gone _
 ·rcases hm i hi y hy with rfl|q<;>rcases hm j hj v hv with rfl|q2
  ·rfl
  ·have:=(h.new h0 h1 h2 hj).1 v q2;omega
  ·have:=(h.new h0 h1 h2 hi).1 y q;omega
  ·exact h.one i j hi hj y v q q2 e
 ·rcases hT j hj with⟨a1,a2,a3,a4⟩|⟨a1,a2⟩
  ·rw[a2];rw[a1] at hk;exact⟨hk.1.trans (List.prefix_append _ _),by omega⟩
  ·rw[a1,a2];exact hk
 ·rcases hT j hj with⟨a1,a2,a3,a4⟩|⟨a1,a2⟩
  ·rw[a2];exact(h.k3 h0).trans (List.prefix_append _ _)
  ·rw[a1] at hz ⊢;exact h.k2 j hj hz
theorem Pr.ackd{g g':Nat→Gh}{ld es:Int}{K:List ATxn}{n:Nat}(h:Pr g ld es K n)(h0:0≤ld){x:ATxn}(hx:aT x=0)(h1:x.zxid/2147483648=es)(h2:aA (g ld.toNat).D<x.zxid)(h3:x.zxid%2147483648≤n)
  (hT:∀ j,j<3→((g j).D=(g ld.toNat).D∧(g' j).D=(g ld.toNat).D++[x]∧(g j).a≤(g' j).a∧(g' j).a≤(g' j).D.length)∨((g' j).D=(g j).D∧(g' j).a=(g j).a)) (hE:∀ j,j<3→(g' j).E=(g j).E)
  (hl:(g' ld.toNat).D=(g ld.toNat).D++[x]) (hs:Two fun j=>(g' j).D=(g ld.toNat).D++[x]∧(g' j).a=(g' j).D.length):Pr g' ld es ((g ld.toNat).D++[x]) n:=by
 have hld:=h.ld0 h0;have hl3:ld.toNat<3:=by omega
 have hz0:=fe (h.pos ld.toNat hl3);have hq:=h.took h0 hx h1 h2 h3 hT hE;have hj:∀ j,j<3→(g' j).D=(g ld.toNat).D++[x]∨(g' j).D=(g j).D:=fun j hj=>(hT j hj).imp (fun a=>a.2.1) (fun a=>a.1)
 refine{ hq with old:=fun j h4 y hy=>?_,k1:=hs.mono fun j _ hi=>⟨by rw[hi.1];exact T7 _,by rw[hi.2,hi.1];exact RE _⟩,k2:=fun j h4 hz=>?_,k3:=fun _=>by rw[hl];exact T7 _,ld0:=fun _=>⟨hld.1,by rw[hE _ hl3];exact hld.2⟩ }
 ·have ho:=hq.old j h4 y hy
  refine⟨ho.1,ho.2.1,ho.2.2.1,fun _=>.inr ?_⟩;rw[hl,fQ];rcases hj j h4 with e|e
  ·rw[e] at hy
   have:=po (kZ (h.log _ hl3) (fun _=>h2) hx) hy;rwa[fQ] at this
  ·rw[e] at hy
   exact UC ((h.new h0 h1 h2 h4).1 y hy)
 ·rcases hj j h4 with e|e
  ·rw[e];exact T7 _
  ·rw[e,fQ] at hz
   have:=(h.new h0 h1 h2 h4).2;omega
theorem Pr.start:Pr (fun _=>⟨[],0,0⟩) (-1) 0 [] 0:=by refine⟨fun _ _=>nk,fun _ _=>RE _,fun _ _ _ h=>(by cases h),fun _ _ _ h=>(by cases h),Su _,Su _,fun _ _=>⟨Su _,Su _⟩,⟨0,1,by decide,by decide,by decide,Su _,Su _⟩,fun _ _ _ _ _ _ h=>(by cases h),⟨0,1,by decide,by decide,by decide,⟨T7 _,RE _⟩,⟨T7 _,RE _⟩⟩,fun _ _ _=>T7 _,fun _=>T7 _,fun h=>absurd h (by decide)⟩
theorem za{p:XP}{es:Int}{n:Nat}(hn:n<1000000)(h0:0≤es)(h1:es≤n)(hE:p.epoch=es)(hz0:0≤aA p.log)(hz1:aA p.log/2147483648≤es)(hz2:aA p.log%2147483648≤n) :
  (cD p).2=0∧(cD p).1/2147483648=es∧(cD p).1%2147483648≤n+1∧aA p.log<(cD p).1:=by
 have hg:bd (aA p.log):=by unfold bd;omega
 have he:epZ (aA p.log)=aA p.log/2147483648:=by unfold epZ;rw[Rx hg]
 have hmk:mkZ es 0=(es*2147483648,0):=(mA h0 (by omega)).1;have hg2:bd (es*2147483648):=(mA h0 (by omega)).2.1;unfold cD;rw[he,hE,hmk]
 by_cases hlt:aA p.log/2147483648<es
 ·rw[Rx hlt,Rw (fun h=>h rfl)]
  unfold jw;rw[Rx hg2,Rw (by simp only;omega)];exact⟨rfl,by simp only;omega,by simp only;omega,by simp only;omega⟩
 ·rw[Rw hlt]
  unfold jw;rw[Rx hg,Rw (by omega)];exact⟨rfl,by simp only;omega,by simp only;omega,by simp only;omega⟩
theorem FM:recoverD []=([],⟨mkD none [] []⟩,0):=by decide +kernel
theorem qF:∀{l:List ATxn} {t v:XI},aS t=true→cu t l=some v→aS v=true
 |[],t,v,hg,h=>by injection h with h;subst h;exact hg
 | x::r,t,v,hg,h=>by
   rw[cu] at h;split at h
   ·rename_i he;exact qF (tO he) h
   ·cases h
theorem wB:∀{l:List ATxn} {t v:XI},cu t l=some v→v.zxid=if l=[] then t.zxid else aA l
 |[],t,v,h=>by injection h with h;subst h;rfl
 | x :: r,t,v,h=>by
   rw[cu] at h;split at h
   ·rename_i he
    have h2:=wB h
    have h3:(ah t x).1.zxid=x.zxid:=by
     have h0:bv t x=0:=by apply R4;intro hw;rw[mh hw] at he;exact hw he
     have hb:(cG t x).1.nodes.any dM=false:=by apply R4;intro hb;rw[cU h0 (by simpa using hb)] at he;cases he
     rw[eA h0 hb];unfold cG
     repeat' split
     all_goals rfl
    rw[Rw (List.cons_ne_nil x r),h2]
    by_cases e:r=[]
    ·subst e;rw[Rx rfl,h3];rfl
    ·rw[Rw e,dQ (TJ.2 e),dQ (by simp)]
     have:=TJ.2 e;rw[RD,show r.length+1-1=(r.length-1)+1 from by omega,VB]
   ·cases h
def Nk(e:Option (List UInt8))(E:Int):Prop:=(e=none∧E=0)∨(e=some (epB E)∧0≤E∧E≤2147483647)
theorem Nk.read{e:Option (List UInt8)}{E:Int}(h:Nk e E){s t:List UInt8}(hl:s.length+t.length≤1048576):gz (mkD e s t)=E:=by
 rcases h with⟨rfl,rfl⟩|⟨rfl,h0,h1⟩
 ·exact Cu hl
 ·exact Ig h0 h1 hl
def SvUp(s:XH)(g:Gh):Prop:=∃ e,Nk e g.E∧XV s e g.a∧s.peer.log=g.D∧s.peer.epoch=g.E
def PB(s:XH)(g:Gh):Prop:=∃ e,Nk e g.E∧XY s e g.D∧g.a=g.D.length
def ji(s:XH)(g:Gh)(j:Nat):Prop:=s.peer.id=j∧(s.up=true→SvUp s g)∧(s.up=false→PB s g)
theorem XV.posZ{s:XH}{e:Option (List UInt8)}{a:Nat}(h:XV s e a):0≤s.tree.zxid∧s.tree.zxid≤aA s.peer.log∧(s.tree.zxid=0∨∃ x,x∈s.peer.log∧x.zxid=s.tree.zxid):=by
 have hz:=wB h.tree;have h0:∀ x,x∈s.peer.log→0≤x.zxid:=fun x hx=>(fU (h.log.2 x hx)).1.1
 have hl0:0≤aA s.peer.log:=by
  by_cases e:s.peer.log=[]
  ·rw[e];exact Su _
  ·obtain⟨x,q1,q2⟩:=gh e
   have:=h0 x q1;omega
 by_cases e:s.peer.log.take s.peer.done.toNat=[]
 ·rw[Rx e] at hz
  have:t00.zxid=0:=by decide
  rw[hz,this];exact⟨Su _,hl0,.inl rfl⟩
 ·rw[Rw e] at hz
  obtain⟨x,q1,q2⟩:=gh e;have hx:=Sf q1;rw[hz,←q2];exact⟨h0 x hx,po h.log hx,.inr ⟨x,hx,rfl⟩⟩
theorem LX{s:XH}{g:Gh}{j:Nat}(h:ji s g j)(hu:s.up=true){keep:Int}(hc:(bR s keep).2=0):∃ k,g.a≤k∧k≤g.D.length∧ji (bR s keep).1 ⟨g.D.take k,k,g.E⟩ j∧(bR s keep).1.up=false:=by
 obtain⟨hid,h1,_⟩:=h;obtain⟨e,he,hk,hl,_⟩:=h1 hu
 have h0:0≤keep:=by
  apply R4;intro hn;have hcd:eJ s.disk.files keep=(default,3):=by unfold eJ;rw[Rx (.inr (by omega))]
  unfold bR at hc;rw[hcd,Rw (by decide)] at hc;cases hc
 obtain⟨k,k1,k2,k3,k4,k5⟩:=hk.crash h0;rw[hl] at k2 k4;refine⟨k,k1,k2,⟨by rw[k5,hid],fun hf=>(by rw[k4.up] at hf;cases hf),fun _=>⟨e,he,k4,by show k=(g.D.take k).length;rw[RH];omega⟩⟩,k4.up⟩
theorem M0{s:XH}{g:Gh}{j:Nat}(h:ji s g j)(hu:s.up=false)(hj:j<3):(cK j s.disk.files).2=0∧ji (cK j s.disk.files).1 g j∧(cK j s.disk.files).1.up=true∧(cK j s.disk.files).1.peer.done=0∧(cK j s.disk.files).1.watches=[]:=by
 obtain⟨hid,_,h1⟩:=h;obtain⟨e,he,hk,ha⟩:=h1 hu;obtain⟨c,c1,c2,c3⟩:=hk.disk;have hr:=hk.recovers;have hep:gz s.disk.files=g.E:=by rw[c1];exact he.read (by simpa using c2)
 have hb:cK j s.disk.files=(⟨true,⟨mkD e (encs g.D) []⟩,⟨j,g.E,g.D,0⟩,t00,[]⟩,0):=by unfold cK;rw[Rw (by omega),hr.1,Rw (fun h=>h rfl),hep]
 rw[hb];refine⟨rfl,⟨rfl,fun _=>⟨e,he,?_,rfl,rfl⟩,fun hf=>(by cases hf)⟩,rfl,rfl,rfl⟩;rw[ha];exact hk.boot _ _
theorem MZ{s:XH}{g:Gh}{j:Nat}(h:ji s g j)(hu:s.up=true){x:ATxn}(hx:aT x=0)(hz:aA g.D<x.zxid)(hl:(encs g.D).length+(cE x).1.length≤1048576)(hp:∃ v,cu t00 (g.D++[x])=some v)(safe:Bool) :
  (bg s x safe).2=0∧ji (bg s x safe).1 ⟨g.D++[x],if safe then g.D.length+1 else g.a,g.E⟩ j∧(bg s x safe).1.up=true∧(bg s x safe).1.peer.done=s.peer.done∧(bg s x safe).1.watches=s.watches:=by
 obtain⟨hid,h1,_⟩:=h;obtain⟨e,he,hk,hlg,hep⟩:=h1 hu;rw[←hlg] at hz hl hp;obtain⟨d,t1,t2⟩:=hk.take hx hz hl hp safe;rw[t1];refine⟨rfl,⟨hid,fun _=>⟨e,he,?_,?_,hep⟩,fun hf=>?_⟩,hu,rfl,rfl⟩
 ·rw[hlg] at t2;rw[hlg];exact t2
 ·simp only;rw[hlg]
 ·change s.up=false at hf;rw[hu] at hf;cases hf
theorem wQ{s:XH}{g:Gh}{j:Nat}(h:ji s g j)(hu:s.up=true){n:Int}(hn1:s.peer.done≤n)(hn2:n≤g.D.length) :
  (au s n).2.2=0∧ji (au s n).1 g j∧(au s n).1.up=true∧(au s n).1.peer.done=n:=by
 obtain⟨hid,h1,_⟩:=h;obtain⟨e,he,hk,hlg,hep⟩:=h1 hu;rw[←hlg] at hn2;obtain⟨t,w,ns,t1,t2⟩:=hk.commit hn1 hn2;rw[t1];refine⟨rfl,⟨hid,fun _=>⟨e,he,t2,hlg,hep⟩,fun hf=>?_⟩,hu,rfl⟩
 change s.up=false at hf;rw[hu] at hf;cases hf
theorem G4{s:XH}{g:Gh}{j:Nat}(h:ji s g j)(hu:s.up=true){l:List ATxn}(ho:logOk l)(hl:(encs l).length≤1048576)(hp:∃ v,cu t00 l=some v)(hone:∀ x y,x∈l→y∈g.D→x.zxid=y.zxid→x=y){ep:Int}(h0:0≤ep)(h1:ep≤2147483647) :
  ((aG s l ep).2=0→ji (aG s l ep).1 ⟨l,l.length,ep⟩ j∧(aG s l ep).1.up=true∧(aG s l ep).1.peer.done=s.peer.done∧s.peer.done≤l.length∧(aG s l ep).1.watches=s.watches)∧(s.peer.done=0→(aG s l ep).2=0):=by
 obtain⟨hid,hh,_⟩:=h;obtain⟨e,he,hk,hlg,hep⟩:=hh hu;have hle:=jk l s.peer.log
 by_cases hd:s.peer.done≤bp l s.peer.log
 ·have hm:l.take (bp l s.peer.log)=s.peer.log.take (bp l s.peer.log):=by
   apply Us
   ·rw[RH,RH];omega
   ·intro i h2 h3
    rw[RH] at h2 h3;rw[UN,UN];have hi:=ol l s.peer.log i (by omega);rw[Ru,Rv (by omega),Ru,Rv (by omega)] at hi;exact hone _ _ (So _) (by rw[←hlg];exact So _) hi
  obtain⟨d,t1,t2⟩:=hk.follow ho hl hp h0 h1 hm hd;rw[t1];refine⟨fun _=>⟨⟨hid,fun _=>⟨some (epB ep),.inr ⟨rfl,h0,h1⟩,t2,rfl,rfl⟩,fun hf=>?_⟩,hu,rfl,by omega,rfl⟩,fun _=>rfl⟩
  change s.up=false at hf;rw[hu] at hf;cases hf
 ·have hf:(aG s l ep).2=13:=by unfold aG;rw[Rx (by omega)]
  rw[hf];exact⟨fun h=>(by cases h),fun h=>(by omega)⟩
theorem Am{l:List ATxn}(h:∀ t,t∈l→aT t=0):(encs l).length≤l.length*487:=by
 induction l with
 |nil=>exact RI _
 | cons x l ih=>
   have h1:=ih fun t ht=>h t (R6 _ ht)
   have h2:=nF (h x (St ..));have h3:=fU (h x (St ..));rw[eC,Ry,RD];omega
structure XS (w:AWorld) (g:Nat→Gh) (es:Int) (K:List ATxn) (n:Nat):Prop where
 sl:w.sv.length=3
 fl:w.fl.length=3
 cl:w.cl.length=16
 pr:Pr g w.leader es K n
 sv:∀ j,j<3→ji (w.s j) (g j) j
 small:∀ j,j<3→(g j).D.length≤n
 lead:0≤w.leader→w.f w.leader.toNat=true∧(w.s w.leader.toNat).peer.done=(g w.leader.toNat).D.length
 fol:0≤w.leader→∀ j,j<3→w.f j=true→(w.s j).up=true∧(g j).D=(g w.leader.toNat).D
 ack:w.done.Sublist K
 cli:∀ i,i<16→(w.c i).session=(i:Int)+1∧Old w.leader es (g w.leader.toNat).D n (w.c i).seen
theorem qo{α:Type}(l:List α)(i j:Nat)(x d:α)(h:i<l.length):(l.set i x).getD j d=if j=i then x else l.getD j d:=by
 rw[Ru,Ru,Tc]
 by_cases e:i=j
 ·subst e;rw[Rx rfl,Rx rfl,Rx h];rfl
 ·rw[Rw e,Rw (fun h=>e h.symm)]
theorem fv{w:AWorld}{i:Nat}(h:i<w.sv.length)(s:XH)(j:Nat):(w.setS i s).s j=if j=i then s else w.s j:=qo _ _ _ _ _ h
theorem qA{w:AWorld}{i:Nat}(h:i<w.fl.length)(b:Bool)(j:Nat):(w.setF i b).f j=if j=i then b else w.f j:=qo _ _ _ _ _ h
theorem Ka{w:AWorld}{i:Nat}(h:i<w.cl.length)(c:XM)(j:Nat):(w.setC i c).c j=if j=i then c else w.c j:=qo _ _ _ _ _ h
theorem Bd(w:AWorld)(j:Nat):w.resign.f j=false:=by unfold AWorld.resign AWorld.f;rcases j with _|_|_|j<;>rfl
theorem XS.mono{w:AWorld}{g:Nat→Gh}{es:Int}{K:List ATxn}{n m:Nat}(h:XS w g es K n)(hm:n≤m):XS w g es K m:=
 { h with pr:=h.pr.mono hm,small:=fun j hj=>RW (h.small j hj) hm,cli:=fun i hi=>⟨(h.cli i hi).1,(h.cli i hi).2.up hm⟩ }
theorem XS.deeds{w:AWorld}{g:Nat→Gh}{es:Int}{K:List ATxn}{n:Nat}(h:XS w g es K n)(d:Int):XS { w with deeds:=d } g es K n:=
 ⟨h.sl,h.fl,h.cl,h.pr,h.sv,h.small,h.lead,h.fol,h.ack,h.cli⟩
theorem XS.resign{w:AWorld}{g:Nat→Gh}{es:Int}{K:List ATxn}{n:Nat}(h:XS w g es K n):XS w.resign g es K n:=
 ⟨h.sl,rfl,h.cl,h.pr.resign,h.sv,h.small,fun h0=>absurd h0 (show ¬ (0:Int)≤-1 by decide),fun h0=>absurd h0 (show ¬ (0:Int)≤-1 by decide),h.ack,fun i hi=>⟨(h.cli i hi).1,(h.cli i hi).2.gone _⟩⟩
theorem XS.crash{w:AWorld}{g:Nat→Gh}{es:Int}{K:List ATxn}{n:Nat}(h:XS w g es K n){i:Nat}(hi:i<3)(keep:Int):∃ g',XS (iu w i keep).1 g' es K n:=by
 unfold iu
 by_cases hu:(w.s i).up=false
 ·rw[Rx hu];exact⟨g,h⟩
 rw[Rw hu]
 by_cases hc:(bR (w.s i) keep).2=0
 case neg=>rw[Rx hc];exact⟨g,h⟩
 rw[Rw (fun h=>h hc)];obtain⟨k,k1,k2,k3,k4⟩:=LX (h.sv i hi) (by simpa using hu) hc;have hsl:=h.sl;have hfl:=h.fl;have hsm:=h.small
 have hsv:∀ j,j<3→ji ((w.setS i (bR (w.s i) keep).1).s j) (upd g i ⟨(g i).D.take k,k,(g i).E⟩ j) j:=fun j hj=>by
  rw[fv (by omega)]
  by_cases e:j=i
  ·subst e;rw[Rx rfl,dG];exact k3
  ·rw[Rw e,cc _ _ e];exact h.sv j hj
 have hsmall:∀ j,j<3→(upd g i ⟨(g i).D.take k,k,(g i).E⟩ j).D.length≤n:=fun j hj=>by
  by_cases e:j=i
  ·subst e;rw[dG];simp only;rw[RH];have:=hsm j hj;omega
  ·rw[cc _ _ e];exact hsm j hj
 refine⟨upd g i ⟨(g i).D.take k,k,(g i).E⟩,?_⟩
 by_cases hl:w.leader=i
 ·rw[Rx hl]
  refine⟨by simp only[AWorld.resign,AWorld.setF,AWorld.setS,RQ];exact hsl,rfl,h.cl,h.pr.resign.cut hi (fun h0=>absurd h0 (by decide)) k1 k2,hsv,hsmall,fun h0=>absurd h0 (show ¬ (0:Int)≤-1 by decide),fun h0=>absurd h0 (show ¬ (0:Int)≤-1 by decide),h.ack,fun m hm=>⟨(h.cli m hm).1,(h.cli m hm).2.gone _⟩⟩
 ·rw[Rw hl]
  have hne:0≤w.leader→w.leader.toNat≠i:=fun h0 e=>hl (by omega)
  have hf:∀ j,((w.setS i (bR (w.s i) keep).1).setF i false).f j=if j=i then false else w.f j:=fun j=>qA (w:=w.setS i (bR (w.s i) keep).1) (by show i<w.fl.length;omega) false j
  have hs:∀ j,((w.setS i (bR (w.s i) keep).1).setF i false).s j=if j=i then(bR (w.s i) keep).1 else w.s j:=fun j=>fv (by omega) _ j
  refine⟨by simp only[AWorld.setF,AWorld.setS,RQ];exact hsl,by simp only[AWorld.setF,AWorld.setS,RQ];exact hfl,h.cl,h.pr.cut hi hne k1 k2,hsv,hsmall,fun h0=>?_,fun h0 j hj hfj=>?_,h.ack,fun m hm=>⟨(h.cli m hm).1,?_⟩⟩
  ·change 0≤w.leader at h0
   show((w.setS i (bR (w.s i) keep).1).setF i false).f w.leader.toNat=true∧(((w.setS i (bR (w.s i) keep).1).setF i false).s w.leader.toNat).peer.done=_;rw[hf,hs,Rw (hne h0),Rw (hne h0)];show _∧_=(((upd g i ⟨(g i).D.take k,k,(g i).E⟩ w.leader.toNat).D.length:Nat):Int);rw[cc _ _ (hne h0)];exact h.lead h0
  ·rw[hf] at hfj
   by_cases e:j=i
   ·rw[Rx e] at hfj;cases hfj
   rw[Rw e] at hfj
   change 0≤w.leader at h0
   have:=h.fol h0 j hj hfj;show(((w.setS i (bR (w.s i) keep).1).setF i false).s j).up=true∧_=(upd g i ⟨(g i).D.take k,k,(g i).E⟩ w.leader.toNat).D;rw[hs,Rw e,cc _ _ e,cc _ _ (hne h0)];exact this
  ·show Old w.leader es (upd g i ⟨(g i).D.take k,k,(g i).E⟩ w.leader.toNat).D n (w.c m).seen
   have ho:=(h.cli m hm).2
   by_cases h0:0≤w.leader
   ·rw[cc _ _ (hne h0)];exact ho
   ·exact⟨ho.1,ho.2.1,ho.2.2.1,fun h=>absurd h h0⟩
theorem XS.up{w:AWorld}{g:Nat→Gh}{es:Int}{K:List ATxn}{n:Nat}(h:XS w g es K n){i:Nat}(hi:i<3):XS (upW w i).1 g es K n:=by
 unfold upW
 by_cases hu:(w.s i).up=true
 ·rw[Rx hu];exact h
 rw[Rw hu];have hu':(w.s i).up=false:=by simpa using hu
 obtain⟨b1,b2,b3,b4,b5⟩:=M0 (h.sv i hi) hu' hi;rw[Rw (fun h=>h b1)];have hsl:=h.sl;have hs:∀ j,(w.setS i (cK i (w.s i).disk.files).1).s j=if j=i then(cK i (w.s i).disk.files).1 else w.s j:=fun j=>fv (by omega) _ j
 refine⟨by simp only[AWorld.setS,RQ];exact hsl,h.fl,h.cl,h.pr,fun j hj=>?_,h.small,fun h0=>?_,fun h0 j hj hf=>?_,h.ack,h.cli⟩
 ·rw[hs]
  by_cases e:j=i
  ·subst e;rw[Rx rfl];exact b2
  ·rw[Rw e];exact h.sv j hj
 ·change 0≤w.leader at h0
  have hl:=h.lead h0;have hl2:=h.fol h0 w.leader.toNat (by have:=(h.pr.ld0 h0).1;omega) hl.1;have hne:w.leader.toNat≠i:=fun e=>by rw[e,hu'] at hl2;cases hl2.1
  show w.f w.leader.toNat=true∧((w.setS i (cK i (w.s i).disk.files).1).s w.leader.toNat).peer.done=_;rw[hs,Rw hne];exact hl
 ·change 0≤w.leader at h0
  have hj2:=h.fol h0 j hj hf;have hne:j≠i:=fun e=>by rw[e,hu'] at hj2;cases hj2.1
  show((w.setS i (cK i (w.s i).disk.files).1).s j).up=true∧_;rw[hs,Rw hne];exact hj2
theorem ji.watch{s:XH}{g:Gh}{j:Nat}(h:ji s g j)(hu:s.up=true)(l:List AWatch):ji { s with watches:=l } g j:=by
 obtain⟨hid,h1,_⟩:=h;obtain⟨e,he,hk,hlg,hep⟩:=h1 hu;refine⟨hid,fun _=>⟨e,he,⟨hk.up,hk.disk,hk.le,hk.log,hk.small,hk.elen,hk.d0,hk.dl,hk.tree,hk.play⟩,hlg,hep⟩,fun hf=>?_⟩
 change s.up=false at hf;rw[hu] at hf;cases hf
theorem Pr.zero{g:Nat→Gh}{ld es:Int}{K:List ATxn}{n:Nat}(h:Pr g ld es K n):Old ld es (g ld.toNat).D n 0:=
 ⟨Su _,h.es0,Int.natCast_nonneg _,fun h0=>.inr (fe (h.pos ld.toNat (by have:=h.ld0 h0;omega)))⟩
theorem XS.treeOld{w:AWorld}{g:Nat→Gh}{es:Int}{K:List ATxn}{n:Nat}(h:XS w g es K n){i:Nat}(hi:i<3)(hu:(w.s i).up=true):Old w.leader es (g w.leader.toNat).D n (w.s i).tree.zxid:=by
 obtain⟨e,he,hk,hlg,hep⟩:=(h.sv i hi).2.1 hu;rcases hk.posZ.2.2 with h0|⟨x,hx,hz⟩
 ·rw[h0];exact h.pr.zero
 ·rw[←hz];exact h.pr.old i hi x (by rw[←hlg];exact hx)
theorem XS.setC{w:AWorld}{g:Nat→Gh}{es:Int}{K:List ATxn}{n:Nat}(h:XS w g es K n){k:Nat}(hk:k<16){c:XM}(hs:c.session=(k:Int)+1)(ho:Old w.leader es (g w.leader.toNat).D n c.seen):XS (w.setC k c) g es K n:=by
 have hcl:=h.cl;refine⟨h.sl,h.fl,by simp only[AWorld.setC,RQ];exact hcl,h.pr,h.sv,h.small,h.lead,h.fol,h.ack,fun i hi=>?_⟩;rw[Ka (by omega)]
 by_cases e:i=k
 ·subst e;rw[Rx rfl];exact⟨hs,ho⟩
 ·rw[Rw e];exact h.cli i hi
theorem XS.setS{w:AWorld}{g:Nat→Gh}{es:Int}{K:List ATxn}{n:Nat}(h:XS w g es K n){i:Nat}(hi:i<3){s:XH}(hs:ji s (g i) i)(hu:s.up=(w.s i).up)(hd:s.peer.done=(w.s i).peer.done):XS (w.setS i s) g es K n:=by
 have hsl:=h.sl;refine⟨by simp only[AWorld.setS,RQ];exact hsl,h.fl,h.cl,h.pr,fun j hj=>?_,h.small,fun h0=>?_,fun h0 j hj hf=>?_,h.ack,h.cli⟩
 ·rw[fv (by omega)]
  by_cases e:j=i
  ·subst e;rw[Rx rfl];exact hs
  ·rw[Rw e];exact h.sv j hj
 ·show w.f w.leader.toNat=true∧((w.setS i s).s w.leader.toNat).peer.done=_
  rw[fv (by omega)]
  by_cases e:w.leader.toNat=i
  ·rw[Rx e,hd,←e];exact h.lead h0
  ·rw[Rw e];exact h.lead h0
 ·show((w.setS i s).s j).up=true∧_
  rw[fv (by omega)]
  by_cases e:j=i
  ·rw[Rx e,hu,←e];exact h.fol h0 j hj hf
  ·rw[Rw e];exact h.fol h0 j hj hf
theorem XS.read{w:AWorld}{g:Nat→Gh}{es:Int}{K:List ATxn}{n:Nat}(h:XS w g es K n)(d:XO):XS (ib w d).1 g es K n:=by
 unfold ib;split
 ·exact h
 rename_i hd;have hi:d.server.toNat<3:=by omega
 have hk:d.client.toNat<16:=by omega
 simp only;split
 ·exact h
 rename_i hu;have hu:(w.s d.server.toNat).up=true:=by simpa using hu
 have ho:=h.treeOld hi hu;have hc:=h.cli _ hk;split
 ·exact h
 rename_i hs
 have hse:gw (w.c d.client.toNat) (w.s d.server.toNat).tree.zxid=({ w.c d.client.toNat with seen:=(w.s d.server.toNat).tree.zxid },0):=by
  unfold gw at hs ⊢;split
  ·rename_i hh;rw[Rx hh] at hs;exact absurd (show(15:Int)≠0 by decide) hs
  ·rfl
 rw[hse];split
 ·split
  ·exact h
  ·refine XS.setC ?_ hk ?_ ?_
   ·exact XS.setS h hi (ji.watch (h.sv _ hi) hu (jE (w.s d.server.toNat).watches ⟨(w.c d.client.toNat).session,1,d.request.path⟩).1) rfl rfl
   ·exact hc.1
   ·exact ho
 ·exact h.setC hk hc.1 ho
theorem EJ{w:AWorld}(h:w.sv.length=3):w.sv=[w.s 0,w.s 1,w.s 2]:=by
 unfold AWorld.s;rcases e:w.sv with _|⟨a,_|⟨b,_|⟨c,_|⟨d,r⟩⟩⟩⟩
 all_goals rw[e] at h
 all_goals first|(simp at h;done)|rfl
theorem iQ{w:AWorld}(h:w.sv.length=3){p:XP}:p∈bS w↔∃ j,j<3∧(w.s j).up=true∧p=(w.s j).peer:=by
 unfold bS;rw[EJ h,SJ];constructor
 ·rintro⟨s,hs,rfl⟩
  obtain⟨h1,h2⟩:=Tr.1 hs;simp only[RP,RV,UD] at h1;rcases h1 with rfl|rfl|rfl
  ·exact⟨0,by decide,h2,rfl⟩
  ·exact⟨1,by decide,h2,rfl⟩
  ·exact⟨2,by decide,h2,rfl⟩
 ·rintro⟨j,hj,hu,rfl⟩
  refine⟨w.s j,Tr.2 ⟨?_,hu⟩,rfl⟩
  have:j=0∨j=1∨j=2:=by omega
  rcases this with rfl|rfl|rfl<;>simp
theorem B5{w:AWorld}(h:w.sv.length=3)(hid:∀ j,j<3→(w.s j).peer.id=j):List.Pairwise (fun a b:XP=>a.id<b.id) (bS w):=by
 unfold bS;rw[EJ h,List.pairwise_map];refine List.Pairwise.filter _ ?_;have h0:=hid 0 (by decide);have h1:=hid 1 (by decide);have h2:=hid 2 (by decide);refine VO.2 ⟨fun b hb=>?_,VO.2 ⟨fun b hb=>?_,List.pairwise_singleton _ _⟩⟩
 ·rcases RP.1 hb with rfl|hb
  ·omega
  ·rw[SM.1 hb];omega
 ·rw[SM.1 hb];omega
theorem Hm{w:AWorld}(h:w.sv.length=3)(hid:∀ j,j<3→(w.s j).peer.id=j)(hl:2≤(bS w).length):Two fun j=>(w.s j).up=true:=by have hp:=B5 h hid;have h0:=So (l:=bS w) (n:=0) (by omega);have h1:=So (l:=bS w) (n:=1) (by omega);have hlt:=SO.1 hp 0 1 (by omega) (by omega) (by omega);obtain⟨i,a1,a2,a3⟩:=(iQ h).1 h0;obtain⟨j,b1,b2,b3⟩:=(iQ h).1 h1;refine⟨i,j,a1,b1,fun e=>?_,a2,b2⟩;subst e;rw[a3,b3] at hlt;omega
def Flw(w:AWorld)(g:Nat→Gh)(l:List ATxn)(ep:Int):Prop:=∀ j,j<3→w.f j=true→(w.s j).up=true∧g j=⟨l,l.length,ep⟩∧(w.s j).peer.done=l.length
theorem qx{l:List ATxn}{ep es:Int}{n b:Nat}{K:List ATxn}(ho:logOk l)(hl:(encs l).length≤1048576)(hp:∃ v,cu t00 l=some v)(h0:0≤ep)(h1:ep≤2147483647)(he:es<ep)(hn:ep≤n)(hll:l.length≤n)(hb:b<3)(hK:K <+: l) :
  ∀ (r:List Nat) (w:AWorld) (ns:List XJ) (g:Nat→Gh),r.Nodup→(∀ i,i∈r→i<3)→XS w g es K n→w.leader=-1→(g b).D=l→Flw w g l ep→
    ∃ g',XS (bH l ep r w ns).1 g' es K n∧(bH l ep r w ns).1.leader=-1∧(g' b).D=l∧Flw (bH l ep r w ns).1 g' l ep∧(∀ j,((bH l ep r w ns).1.s j).up=(w.s j).up)∧
      ((bH l ep r w ns).2.2=0→∀ j,j∈r→(w.s j).up=true→(bH l ep r w ns).1.f j=true)∧(∀ j,w.f j=true→(bH l ep r w ns).1.f j=true)∧
      ((∀ j,j∈r→(w.s j).peer.done=0)→(bH l ep r w ns).2.2=0)∧(bH l ep r w ns).1.done=w.done∧(bH l ep r w ns).1.deeds=w.deeds
 |[],w,ns,g,_,_,hw,hld,hbl,hf=>⟨g,hw,hld,hbl,hf,fun _=>rfl,fun _ j hj=>(by cases hj),fun _ h=>h,fun _=>rfl,rfl,rfl⟩
 | i :: r,w,ns,g,hnd,hr,hw,hld,hbl,hf=>by
   have hi:i<3:=hr i (St ..);have hr2:∀ j,j∈r→j<3:=fun j hj=>hr j (R6 _ hj)
   obtain⟨hnd1,hnd2⟩:=R7.1 hnd;rw[bH]
   by_cases hu:(w.s i).up=false
   ·rw[Rx hu]
    obtain⟨g',q1,q2,q3,q4,q5,q6,q7,q8,q9⟩:=qx ho hl hp h0 h1 he hn hll hb hK r w ns g hnd2 hr2 hw hld hbl hf;refine⟨g',q1,q2,q3,q4,q5,fun hz j hj hj2=>?_,q7,fun hd=>q8 fun j hj=>hd j (R6 _ hj),q9⟩;rcases RP.1 hj with e|e
    ·subst e;rw[hu] at hj2;cases hj2
    ·exact q6 hz j e hj2
   rw[Rw hu];have hu:(w.s i).up=true:=by simpa using hu
   have hone:∀ x y,x∈l→y∈(g i).D→x.zxid=y.zxid→x=y:=fun x y hx hy=>hw.pr.one b i hb hi x y (by rw[hbl];exact hx) hy
   obtain⟨s1,s2⟩:=G4 (hw.sv i hi) hu ho hl hp hone h0 h1
   by_cases hfz:(aG (w.s i) l ep).2=0
   case neg=>
    rw[Rx hfz];exact⟨g,hw,hld,hbl,hf,fun _=>rfl,fun hz=>absurd hz hfz,fun _ h=>h,fun hd=>absurd (s2 (hd i (St ..))) hfz,rfl,rfl⟩
   rw[Rw (fun h=>h hfz)];obtain⟨t1,t2,t3,t4,_⟩:=s1 hfz;generalize (aG (w.s i) l ep).1=F at t1 t2 t3 ⊢;obtain⟨c1,c2,c3,c4⟩:=wQ t1 t2 (n:=(l.length:Int)) (by rw[t3];exact t4) (Su _);rw[Rw (fun h=>h c1)];generalize (au F l.length).2.1=ms;generalize (au F l.length).1=s at c2 c3 c4 ⊢;have hsl:=hw.sl;have hfl:=hw.fl;have hs:∀ j,((w.setS i s).setF i true).s j=if j=i then s else w.s j:=fun j=>fv (by omega) _ j
   have hff:∀ j,((w.setS i s).setF i true).f j=if j=i then true else w.f j:=fun j=>qA (w:=w.setS i s) (by show i<w.fl.length;omega) true j
   have hgb:(upd g i ⟨l,l.length,ep⟩ b).D=l:=by
    by_cases e:b=i
    ·subst e;rw[dG]
    ·rw[cc _ _ e];exact hbl
   have hld2:((w.setS i s).setF i true).leader=-1:=hld
   have hwi:XS ((w.setS i s).setF i true) (upd g i ⟨l,l.length,ep⟩) es K n:=by
    have hpr:=hw.pr;rw[hld] at hpr;have hpf:=hpr.follow hi hb (by rw[hbl];exact hK) he hn;rw[hbl] at hpf;refine⟨by simp only[AWorld.setF,AWorld.setS,RQ];exact hsl,by simp only[AWorld.setF,AWorld.setS,RQ];exact hfl,hw.cl,by rw[hld2];exact hpf,fun j hj=>?_,fun j hj=>?_,fun h=>?_,fun h=>?_,hw.ack,fun m hm=>⟨(hw.cli m hm).1,?_⟩⟩
    ·rw[hs]
     by_cases e:j=i
     ·subst e;rw[Rx rfl,dG];exact c2
     ·rw[Rw e,cc _ _ e];exact hw.sv j hj
    ·by_cases e:j=i
     ·subst e;rw[dG];exact hll
     ·rw[cc _ _ e];exact hw.small j hj
    ·rw[hld2] at h;exact absurd h (by decide)
    ·rw[hld2] at h;exact absurd h (by decide)
    ·rw[hld2];exact(hw.cli m hm).2.gone _
   have hfw:Flw ((w.setS i s).setF i true) (upd g i ⟨l,l.length,ep⟩) l ep:=fun j hj hj2=>by
    rw[hs]
    by_cases e:j=i
    ·subst e;rw[Rx rfl,dG];exact⟨c3,rfl,c4⟩
    ·rw[hff,Rw e] at hj2
     rw[Rw e,cc _ _ e];exact hf j hj hj2
   obtain⟨g',q1,q2,q3,q4,q5,q6,q7,q8,q9⟩:=qx ho hl hp h0 h1 he hn hll hb hK r ((w.setS i s).setF i true) (ns++ms) _ hnd2 hr2 hwi hld2 hgb hfw
   have hup:∀ j,(((w.setS i s).setF i true).s j).up=(w.s j).up:=fun j=>by
    rw[hs]
    by_cases e:j=i
    ·subst e;rw[Rx rfl,c3,hu]
    ·rw[Rw e]
   refine⟨g',q1,q2,q3,q4,fun j=>(q5 j).trans (hup j),fun hz j hj hj2=>?_,fun j hj=>q7 j ?_,fun hd=>q8 fun j hj=>?_,q9⟩
   ·rcases RP.1 hj with e|e
    ·exact q7 j (by rw[hff,Rx e])
    ·exact q6 hz j e (by rw[hup];exact hj2)
   ·rw[hff];split
    ·rfl
    ·exact hj
   ·rw[hs,Rw (fun e=>hnd1 (by rw[←e];exact hj))]
    exact hd j (R6 _ hj)
theorem uE{w:AWorld}{i:Nat}(h:i<w.cl.length)(ns:List XJ):(dq w ns).c i=⟨(w.c i).session,(w.c i).seen,dS (w.c i).session (w.c i).cache ns⟩:=by unfold dq AWorld.c;simp only;rw[Ru,RF,Rv h,Ru,Rv h];rfl
theorem XS.tell{w:AWorld}{g:Nat→Gh}{es:Int}{K:List ATxn}{n:Nat}(h:XS w g es K n)(ns:List XJ):XS (dq w ns) g es K n:=by have hcl:=h.cl;refine⟨h.sl,h.fl,by unfold dq;simp only[RC];exact hcl,h.pr,h.sv,h.small,h.lead,h.fol,h.ack,fun i hi=>?_⟩;rw[uE (by omega)];exact h.cli i hi
theorem XS.ids{w:AWorld}{g:Nat→Gh}{es:Int}{K:List ATxn}{n:Nat}(h:XS w g es K n):∀ j,j<3→(w.s j).peer.id=j:=fun j hj=>(h.sv j hj).1
theorem XS.elect{w:AWorld}{g:Nat→Gh}{es:Int}{K:List ATxn}{n:Nat}(h:XS w g es K n)(hn:n<1000) :
  ∃ g' es',XS (dj w).1 g' es' K (n+1)∧(dj w).1.done=w.done∧(dj w).1.deeds=w.deeds∧(∀ j,((dj w).1.s j).up=(w.s j).up)∧
    ((dj w).2.code=0→0≤(dj w).1.leader∧∀ j,j<3→(w.s j).up=true→(dj w).1.f j=true∧((dj w).1.s j).peer.done=(g' j).D.length)∧
    (2≤(bS w).length→(∀ j,j<3→(w.s j).peer.done=0)→(dj w).2.code=0):=by
 have hids:=h.ids;have hup:∀ j,j<3→(w.s j).up=true→(w.s j).peer.log=(g j).D∧(w.s j).peer.epoch=(g j).E∧(∃ v,cu t00 (g j).D=some v):=fun j hj hu=>by obtain⟨e,he,hk,hlg,hep⟩:=(h.sv j hj).2.1 hu;exact⟨hlg,hep,by rw[←hlg];exact hk.play⟩
 have hpe:∀ p,p∈bS w→0≤p.id∧p.id<3∧0≤p.epoch∧p.epoch≤(n:Int)∧epZ (aA p.log)≤(n:Int):=fun p hp=>by
  obtain⟨j,hj,hu,rfl⟩:=(iQ h.sl).1 hp;obtain⟨u1,u2,_⟩:=hup j hj hu;have h1:=hids j hj;have h2:=h.pr.E0 j hj;refine⟨by omega,by omega,by omega,by omega,?_⟩;rw[u1];have hes:=h.pr.esn
  by_cases e:(g j).D=[]
  ·rw[e,gK]
   show epZ 0≤_
   have:epZ 0=0:=by decide
   omega
  ·obtain⟨x,q1,q2⟩:=gh e
   rw[←q2];have ho:=h.pr.old j hj x q1;unfold epZ;split
   ·have:=ho.2.1;omega
   ·omega
 obtain⟨e1,e2⟩:=Lf (l:=bS w) (B:=(n:Int)) (by omega) (by omega) (B5 h.sl hids) hpe;unfold dj
 by_cases hlen:(bS w).length<2
 ·rw[e1 hlen,Rx (show(14:Int)≠0 by decide)]
  exact⟨g,es,h.mono (by omega),rfl,rfl,fun _=>rfl,fun hc=>absurd (show(14:Int)=0 from hc) (by decide),fun hc=>absurd hc (by omega)⟩
 obtain⟨b,ep,hel,hb1,hb2,hb3⟩:=e2 (by omega);rw[hel,Rw (fun h=>h rfl)];simp only;rw[show((b:Nat):Int).toNat=b from rfl];have hpm:=aZ (bS w) b hb1;obtain⟨jb,j1,j2,j3⟩:=(iQ h.sl).1 hpm;rw[j3] at hb2 ⊢;obtain⟨u1,u2,u3⟩:=hup jb j1 j2;have hU:=Hm h.sl hids (by omega);rw[u1] at hb2 ⊢;have hK:K <+: (g jb).D:=h.pr.best hU j1 fun j hj hu=>by have:=(hb2 _ ((iQ h.sl).2 ⟨j,hj,hu,rfl⟩)).1;rwa[(hup j hj hu).1] at this
 have hes:es<ep:=h.pr.epoch hU fun j hj hu=>by have:=(hb2 _ ((iQ h.sl).2 ⟨j,hj,hu,rfl⟩)).2;rwa[(hup j hj hu).2.1] at this
 have hes0:=h.pr.es0;have hlog:=h.pr.log jb j1;have hsm:=h.small jb j1;have henc:=Am hlog.2;obtain⟨g',q1,q2,q3,q4,q5,q6,q7,q8,q9,q10⟩:=qx (n:=n+1) (b:=jb) hlog (by omega) u3 (by omega) (by omega) hes (by omega) (by omega) j1 hK [0,1,2] w.resign [] g (by decide) (fun i hi=>by simp at hi;omega) (h.resign.mono (by omega)) rfl rfl (fun j _ hf=>by rw[Bd] at hf;cases hf)
 have hin:∀ j,j<3→j∈[0,1,2]:=fun j hj=>by
  have:j=0∨j=1∨j=2:=by omega
  rcases this with rfl|rfl|rfl<;>simp
 by_cases hz:(bH (g jb).D ep [0,1,2] w.resign []).2.2=0
 case neg=>
  rw[Rx hz];exact⟨g',es,q1,q9,q10,q5,fun hc=>absurd hc hz,fun _ hd=>absurd (q8 fun j hj=>hd j (by simp at hj;omega)) hz⟩
 rw[Rw (fun h=>h hz)];have q6':=q6 hz;generalize bH (g jb).D ep [0,1,2] w.resign []=R at q1 q2 q3 q4 q5 q6' q7 q9 q10 hz ⊢;have hfu:∀ j,j<3→(w.s j).up=true→R.1.f j=true:=fun j hj hu=>q6' j (hin j hj) hu
 have hjb:=q4 jb j1 (hfu jb j1 j2);have hidb:=hids jb j1;have hpr:=q1.pr;rw[q2] at hpr;have hprl:=hpr.lead hes (by omega) (hU.mono fun j hj hu=>by rw[(q4 j hj (hfu j hj hu)).2.1];exact Su _) j1 (by rw[hjb.2.1]) (by rw[q3];exact hK)
 have hwi:XS { R.1 with leader:=(jb:Int) } g' ep K (n+1):=by
  refine⟨q1.sl,q1.fl,q1.cl,hprl,q1.sv,q1.small,fun _=>?_,fun _ j hj hf=>?_,q1.ack,fun m hm=>⟨(q1.cli m hm).1,(q1.cli m hm).2.lead hes _⟩⟩
  ·show R.1.f jb=true∧(R.1.s jb).peer.done=((g' jb).D.length:Int)
   exact⟨hfu jb j1 j2,by rw[hjb.2.2,hjb.2.1]⟩
  ·show(R.1.s j).up=true∧(g' j).D=(g' jb).D
   have:=q4 j hj hf;exact⟨this.1,by rw[this.2.1,hjb.2.1]⟩
 rw[hidb];refine⟨g',ep,hwi.tell _,q9,q10,q5,fun _=>⟨Int.natCast_nonneg _,fun j hj hu=>?_⟩,fun _ _=>rfl⟩
 have:=q4 j hj (hfu j hj hu);show R.1.f j=true∧(R.1.s j).peer.done=((g' j).D.length:Int);exact⟨hfu j hj hu,by rw[this.2.2,this.2.1]⟩
theorem sW{t:XI}{z:Int}{r:XK}(h:(bA t z r).2=0):(bA t z r).1.zxid=z∧(ah t (bA t z r).1).2.2=0:=by
 unfold bA at h ⊢;split
 ·rename_i h1
  rw[Rx h1] at h;split
  ·rename_i h2
   rw[Rx h2] at h;split
   ·rename_i h3
    refine⟨?_,h3⟩;simp only;unfold fG at h2 ⊢
    by_cases o1:r.op=1∨r.op=2
    ·rw[Rx o1]
    rw[Rw o1] at h2 ⊢
    by_cases o3:r.op=3
    ·rw[Rx o3]
    rw[Rw o3] at h2 ⊢
    by_cases o4:r.op=4
    ·rw[Rx o4]
    rw[Rw o4] at h2 ⊢
    by_cases o5:r.op=5
    ·rw[Rx o5]
    rw[Rw o5] at h2;exact absurd (show(4:Int)=0 from h2) (by decide)
   ·rename_i h3
    rw[Rw h3] at h;exact absurd h h3
  ·rename_i h2
   rw[Rw h2] at h;exact absurd h h2
 ·rename_i h1
  rw[Rw h1] at h;exact absurd (show(3:Int)=0 from h) (by decide)
theorem yk{t:XI}{x:ATxn}(h:(ah t x).2.2=0):aT x=0∧t.zxid<x.zxid:=by
 have h0:bv t x=0:=by apply R4;intro hw;rw[mh hw] at h;exact hw h
 have:=cp h0;exact⟨this.2.1,this.2.2.1⟩
theorem pX{x:ATxn}{lead lost slow:Int}{L:List ATxn}(hx:aT x=0)(hz:aA L<x.zxid)(hl:(encs L).length+(cE x).1.length≤1048576)(hp:∃ v,cu t00 (L++[x])=some v) :
  ∀ (r:List Nat) (w:AWorld) (g:Nat→Gh) (hv:List Nat),r.Nodup→(∀ i,i∈r→i<3)→w.sv.length=3→w.fl.length=3→(∀ j,j<3→ji (w.s j) (g j) j)→(∀ j,j∈r→w.f j=true→(w.s j).up=true∧(g j).D=L)→
    ∃ (g':Nat→Gh) (hv':List Nat),(bW x lead lost slow r w hv).2=(hv++hv',0)∧hv'.Sublist r∧(bW x lead lost slow r w hv).1.sv.length=3∧(bW x lead lost slow r w hv).1.fl.length=3∧
      (bW x lead lost slow r w hv).1.cl=w.cl∧(bW x lead lost slow r w hv).1.leader=w.leader∧(bW x lead lost slow r w hv).1.done=w.done∧(bW x lead lost slow r w hv).1.deeds=w.deeds∧
      (∀ j,j<3→ji ((bW x lead lost slow r w hv).1.s j) (g' j) j)∧(∀ j,((bW x lead lost slow r w hv).1.s j).up=(w.s j).up∧((bW x lead lost slow r w hv).1.s j).peer.done=(w.s j).peer.done)∧(∀ j,(g' j).E=(g j).E)∧
      (∀ j,¬ j∈r→(bW x lead lost slow r w hv).1.f j=w.f j∧g' j=g j)∧
      (∀ j,j∈r→((bW x lead lost slow r w hv).1.f j=true∧w.f j=true∧(g j).D=L∧(g' j).D=L++[x]∧(g j).a≤(g' j).a∧(g' j).a≤(g' j).D.length)∨((bW x lead lost slow r w hv).1.f j=false∧g' j=g j))∧
      (∀ j,j∈hv'→(bW x lead lost slow r w hv).1.f j=true∧(g' j).D=L++[x]∧(g' j).a=(g' j).D.length)∧
      (∀ j:Nat,lead=j→j∈r→w.f j=true→j∈hv')
 |[],w,g,hv,_,_,h1,h2,h3,_=>⟨g,[],by rw[bW,R5],To _,h1,h2,rfl,rfl,rfl,rfl,h3,fun _=>⟨rfl,rfl⟩,fun _=>rfl,fun _ _=>⟨rfl,rfl⟩,fun _ h=>(by cases h),fun _ h=>(by cases h),fun _ _ h=>(by cases h)⟩
 | i :: r,w,g,hv,hnd,hr,h1,h2,h3,h4=>by
   have hi:i<3:=hr i (St ..);have hr2:∀ j,j∈r→j<3:=fun j hj=>hr j (R6 _ hj)
   obtain⟨hnd1,hnd2⟩:=R7.1 hnd;rw[bW]
   by_cases hf:w.f i=false
   ·rw[Rx hf]
    obtain⟨g',hv',q0,q1,q2,q3,q4,q5,q6,q7,q8,q9,q10,q11,q12,q13,q14⟩:=pX hx hz hl hp (lead:=lead) (lost:=lost) (slow:=slow) r w g hv hnd2 hr2 h1 h2 h3 (fun j hj=>h4 j (R6 _ hj));refine⟨g',hv',q0,q1.cons _,q2,q3,q4,q5,q6,q7,q8,q9,q10,fun j hj=>q11 j fun hh=>hj (R6 _ hh),fun j hj=>?_,q13,fun j e hj hfj=>?_⟩
    ·rcases RP.1 hj with rfl|hj
     ·have:=q11 j hnd1
      exact .inr ⟨by rw[this.1,hf],this.2⟩
     ·exact q12 j hj
    ·rcases RP.1 hj with rfl|hj
     ·rw[hf] at hfj;cases hfj
     ·exact q14 j e hj hfj
   rw[Rw hf];have hf:w.f i=true:=by simpa using hf
   obtain⟨hu,hD⟩:=h4 i (St ..) hf
   by_cases hlost:¬ lead=(i:Int)∧oP lost i=true
   ·rw[Rx hlost]
    have hff:∀ j,(w.setF i false).f j=if j=i then false else w.f j:=fun j=>qA (by omega) false j
    have hne:∀ j,j∈r→j≠i:=fun j hj e=>hnd1 (by rw[←e];exact hj)
    obtain⟨g',hv',q0,q1,q2,q3,q4,q5,q6,q7,q8,q9,q10,q11,q12,q13,q14⟩:=pX hx hz hl hp (lead:=lead) (lost:=lost) (slow:=slow) r (w.setF i false) g hv hnd2 hr2 h1 (by simp only[AWorld.setF,RQ];exact h2) h3 (fun j hj hfj=>h4 j (R6 _ hj) (by rw[hff,Rw (hne j hj)] at hfj;exact hfj));refine⟨g',hv',q0,q1.cons _,q2,q3,q4,q5,q6,q7,q8,q9,q10,fun j hj=>?_,fun j hj=>?_,q13,fun j e hj hfj=>?_⟩
    ·have:=q11 j fun hh=>hj (R6 _ hh)
     rw[hff,Rw (fun e=>hj (by rw[e];exact St ..))] at this;exact this
    ·rcases RP.1 hj with rfl|hj
     ·have:=q11 j hnd1
      exact .inr ⟨by rw[this.1,hff,Rx rfl],this.2⟩
     ·have:=q12 j hj
      rw[hff,Rw (hne j hj)] at this;exact this
    ·rcases RP.1 hj with rfl|hj
     ·exact absurd e hlost.1
     ·exact q14 j e hj (by rw[hff,Rw (hne j hj)];exact hfj)
   rw[Rw hlost];obtain⟨e1,e2,e3,e4,_⟩:=MZ (h3 i hi) hu hx (by rw[hD];exact hz) (by rw[hD];exact hl) (by rw[hD];exact hp) (decide (lead=(i:Int))||!oP slow i);rw[Rw (fun h=>h e1)];generalize hsafe:(decide (lead=(i:Int))||!oP slow i)=safe at e1 e2 e3 e4 ⊢;generalize (bg (w.s i) x safe).1=s at e2 e3 e4 ⊢;have hs:∀ j,(w.setS i s).s j=if j=i then s else w.s j:=fun j=>fv (by omega) _ j
   have hne:∀ j,j∈r→j≠i:=fun j hj e=>hnd1 (by rw[←e];exact hj)
   have hal:(g i).a≤(g i).D.length:=by
    obtain⟨e,_,hk,hlg,_⟩:=(h3 i hi).2.1 hu
    have:=hk.le;rwa[hlg] at this
   obtain⟨g',hv',q0,q1,q2,q3,q4,q5,q6,q7,q8,q9,q10,q11,q12,q13,q14⟩:=pX hx hz hl hp (lead:=lead) (lost:=lost) (slow:=slow) r (w.setS i s) (upd g i ⟨(g i).D++[x],if safe=true then(g i).D.length+1 else(g i).a,(g i).E⟩) (if safe=true then hv++[i] else hv) hnd2 hr2 (by simp only[AWorld.setS,RQ];exact h1) h2 (fun j hj=>by
     rw[hs]
     by_cases e:j=i
     ·subst e;rw[Rx rfl,dG];exact e2
     ·rw[Rw e,cc _ _ e];exact h3 j hj) (fun j hj hfj=>by
     rw[hs,Rw (hne j hj),cc _ _ (hne j hj)]
     exact h4 j (R6 _ hj) hfj)
   have hgi:g' i=⟨(g i).D++[x],if safe=true then(g i).D.length+1 else(g i).a,(g i).E⟩:=by have:=(q11 i hnd1).2;rwa[dG] at this
   have hfi:(bW x lead lost slow r (w.setS i s) (if safe=true then hv++[i] else hv)).1.f i=true:=by rw[(q11 i hnd1).1];exact hf
   have hgE:∀ j,(upd g i ⟨(g i).D++[x],if safe=true then(g i).D.length+1 else(g i).a,(g i).E⟩ j).E=(g j).E:=fun j=>by
    by_cases e:j=i
    ·subst e;rw[dG]
    ·rw[cc _ _ e]
   have hso:∀ j,((w.setS i s).s j).up=(w.s j).up∧((w.setS i s).s j).peer.done=(w.s j).peer.done:=fun j=>by
    rw[hs]
    by_cases e:j=i
    ·subst e;rw[Rx rfl];exact⟨by rw[e3,hu],e4⟩
    ·rw[Rw e];exact⟨rfl,rfl⟩
   refine⟨g',(if safe=true then[i] else[])++hv',?_,?_,q2,q3,q4,q5,q6,q7,q8,fun j=>⟨(q9 j).1.trans (hso j).1,(q9 j).2.trans (hso j).2⟩,fun j=>(q10 j).trans (hgE j),fun j hj=>?_,fun j hj=>?_,fun j hj=>?_,fun j e hj hfj=>?_⟩
   ·rw[q0]
    cases safe
    ·simp
    ·simp
   ·cases safe
    ·exact q1.cons _
    ·exact q1.cons_cons _
   ·have:=q11 j fun hh=>hj (R6 _ hh)
    rw[cc _ _ (fun e=>hj (by rw[e];exact St ..))] at this;exact this
   ·rcases RP.1 hj with rfl|hj
    ·refine .inl ⟨hfi,hf,hD,by rw[hgi,hD],?_,?_⟩
     ·rw[hgi];simp only;split<;>omega
     ·rw[hgi];simp only[Ry,Sj];split<;>omega
    ·have:=q12 j hj
     rw[cc _ _ (hne j hj)] at this;exact this
   ·rcases Sh.1 hj with hj|hj
    ·cases safe
     ·simp at hj
     ·simp at hj
      subst hj;refine⟨hfi,by rw[hgi,hD],?_⟩;rw[hgi];simp
    ·exact q13 j hj
   ·rcases RP.1 hj with rfl|hj
    ·rw[decide_eq_true e,Bool.true_or] at hsafe
     subst hsafe;simp
    ·exact Sh.2 (.inr (q14 j e hj hfj))
theorem tq{g:Nat→Gh}:∀(r:List Nat) (w:AWorld) (ns:List XJ),(∀ i,i∈r→i<3∧(w.s i).up=true)→w.sv.length=3→(∀ j,j<3→ji (w.s j) (g j) j)→
   (bn r w ns).2.2=0∧(bn r w ns).1.sv.length=3∧(bn r w ns).1.fl=w.fl∧(bn r w ns).1.cl=w.cl∧(bn r w ns).1.leader=w.leader∧(bn r w ns).1.done=w.done∧(bn r w ns).1.deeds=w.deeds∧
    (∀ j,j<3→ji ((bn r w ns).1.s j) (g j) j)∧(∀ j,((bn r w ns).1.s j).up=(w.s j).up)∧(∀ j,j∈r∨(w.s j).peer.done=(g j).D.length→((bn r w ns).1.s j).peer.done=(g j).D.length)
 |[],w,ns,_,h1,h2=>⟨rfl,h1,rfl,rfl,rfl,rfl,rfl,h2,fun _=>rfl,fun j hj=>hj.elim (fun h=>by cases h) id⟩
 | i :: r,w,ns,hr,h1,h2=>by
   obtain⟨hi,hu⟩:=hr i (St ..);obtain⟨e,_,hk,hlg,_⟩:=(h2 i hi).2.1 hu;have hdl:=hk.dl;obtain⟨c1,c2,c3,c4⟩:=wQ (h2 i hi) hu (n:=((w.s i).peer.log.length:Int)) hdl (by rw[hlg];exact Su _);rw[bn,Rw (fun h=>h c1)];generalize (au (w.s i) (w.s i).peer.log.length).2.1=ms;generalize (au (w.s i) (w.s i).peer.log.length).1=s at c2 c3 c4 ⊢;have hs:∀ j,(w.setS i s).s j=if j=i then s else w.s j:=fun j=>fv (by omega) _ j
   have hup:∀ j,((w.setS i s).s j).up=(w.s j).up:=fun j=>by
    rw[hs]
    by_cases e:j=i
    ·subst e;rw[Rx rfl,c3,hu]
    ·rw[Rw e]
   obtain⟨q1,q2,q3,q4,q5,q6,q7,q8,q9,q10⟩:=tq (g:=g) r (w.setS i s) (ns++ms) (fun j hj=>⟨(hr j (R6 _ hj)).1,by rw[hup];exact(hr j (R6 _ hj)).2⟩) (by simp only[AWorld.setS,RQ];exact h1) (fun j hj=>by
    rw[hs]
    by_cases e:j=i
    ·subst e;rw[Rx rfl];exact c2
    ·rw[Rw e];exact h2 j hj)
   refine⟨q1,q2,q3,q4,q5,q6,q7,q8,fun j=>(q9 j).trans (hup j),fun j hj=>q10 j ?_⟩
   by_cases e:j=i
   ·subst e;right;rw[hs,Rx rfl,c4,hlg]
   ·rcases hj with hj|hj
    ·exact .inl ((RP.1 hj).resolve_left e)
    ·right;rw[hs,Rw e];exact hj
theorem OP{l:List Nat}(h:l.Sublist [0,1,2])(h2:2≤l.length):Two fun j=>j∈l:=by
 have hn:l.Nodup:=h.nodup (by decide);have hm:∀ j,j∈l→j<3:=fun j hj=>by have:=h.subset hj;simp at this;omega
 refine⟨l[0],l[1],hm _ (So _),hm _ (So _),fun e=>?_,So _,So _⟩
 have:=(SO.1 hn) 0 1 (by omega) (by omega) (by omega);exact this e
theorem XS.lastOk{w:AWorld}{g:Nat→Gh}{es:Int}{K:List ATxn}{n:Nat}(h:XS w g es K n){j:Nat}(hj:j<3):0≤aA (g j).D∧aA (g j).D/2147483648≤es∧aA (g j).D%2147483648≤n:=by
 have hes:=h.pr.es0
 by_cases e:(g j).D=[]
 ·rw[e,gK];omega
 ·obtain⟨x,q1,q2⟩:=gh e
  have ho:=h.pr.old j hj x q1;rw[q2] at ho;exact⟨ho.1,ho.2.1,ho.2.2.1⟩
theorem XS.write{w:AWorld}{g:Nat→Gh}{es:Int}{K:List ATxn}{n:Nat}(h:XS w g es K n)(hn:n<1000)(d:XO) :
  ∃ g' K',XS (dx w d).1 g' es K' (n+1)∧(dx w d).1.deeds=w.deeds∧((dx w d).2.code=0→∃ x,(dx w d).1.done=w.done++[x]∧(dx w d).2.zxid=x.zxid)∧((dx w d).2.code≠0→(dx w d).1.done=w.done):=by
 have h0:∀ e:Int,e≠0→∃ g' K',XS (w,noR e).1 g' es K' (n+1)∧(w,noR e).1.deeds=w.deeds∧((w,noR e).2.code=0→∃ x,(w,noR e).1.done=w.done++[x]∧(w,noR e).2.zxid=x.zxid)∧((w,noR e).2.code≠0→(w,noR e).1.done=w.done):=
  fun e he=>⟨g,K,h.mono (by omega),rfl,fun hc=>absurd hc he,fun _=>rfl⟩
 unfold dx
 by_cases hcl:d.client<0∨16≤d.client
 ·rw[Rx hcl];exact h0 3 (by decide)
 rw[Rw hcl]
 by_cases hld:w.leader<0
 ·rw[Rx hld];exact h0 14 (by decide)
 rw[Rw hld];have hl0:0≤w.leader:=by omega
 obtain⟨hl3,hlE⟩:=h.pr.ld0 hl0;have hli:w.leader.toNat<3:=by omega
 obtain⟨hlf,hldone⟩:=h.lead hl0;obtain⟨hlu,_⟩:=h.fol hl0 _ hli hlf;obtain⟨ee,he,hk,hlg,hep⟩:=(h.sv _ hli).2.1 hlu;obtain⟨z0,z1,z2⟩:=h.lastOk hli;obtain⟨n1,n2,n3,n4⟩:=za (p:=(w.s w.leader.toNat).peer) (n:=n) (by omega) h.pr.es0 h.pr.esn (by rw[hep,hlE]) (by rw[hlg];exact z0) (by rw[hlg];exact z1) (by rw[hlg];exact z2);rw[Rw (fun h=>h n1)];simp only
 by_cases hpz:(bA (w.s w.leader.toNat).tree (cD (w.s w.leader.toNat).peer).1 (kC w d)).2=0
 case neg=>rw[Rx hpz];exact h0 _ hpz
 rw[Rw (fun h=>h hpz)];obtain⟨p1,p2⟩:=sW hpz;generalize (bA (w.s w.leader.toNat).tree (cD (w.s w.leader.toNat).peer).1 (kC w d)).1=x at p1 p2 ⊢;obtain⟨x1,_⟩:=yk p2;rw[←p1] at n2 n3 n4;rw[hlg] at n4;have hlogl:=h.pr.log _ hli;have henc:=Am hlogl.2;have hsm:=h.small _ hli;have hxl:=nF x1;have hxs:=fU x1;have hplay:∃ v,cu t00 ((g w.leader.toNat).D++[x])=some v:=by refine⟨(ah (w.s w.leader.toNat).tree x).1,?_⟩;have ht:=hk.tree;rw[hldone,hlg,Rz (by omega)] at ht;rw[ro,ht];show cu (w.s w.leader.toNat).tree [x]=_;rw[cu,Rx p2];rfl
 obtain⟨g',hv,q0,q1,q2,q3,q4,q5,q6,q7,q8,q9,q10,q11,q12,q13,q14⟩:=pX (lead:=w.leader) (lost:=d.lost) (slow:=d.slow) x1 n4 (by omega) hplay [0,1,2] w g [] (by decide) (fun i hi=>by simp at hi;omega) h.sl h.fl h.sv (fun j hj hfj=>by
  have:=h.fol hl0 j (by simp at hj;omega) hfj
  exact this)
 have hin:∀ j,j<3→j∈[0,1,2]:=fun j hj=>by
  have:j=0∨j=1∨j=2:=by omega
  rcases this with rfl|rfl|rfl<;>simp
 rw[q0];rw[Sp] at q0 ⊢;generalize (bW x w.leader d.lost d.slow [0,1,2] w []).1=W at q2 q3 q4 q5 q6 q7 q8 q9 q11 q12 q13 ⊢;rw[Rw (fun h=>h rfl)];simp only
 have hT:∀ j,j<3→((g j).D=(g w.leader.toNat).D∧(g' j).D=(g w.leader.toNat).D++[x]∧(g j).a≤(g' j).a∧(g' j).a≤(g' j).D.length)∨((g' j).D=(g j).D∧(g' j).a=(g j).a):=fun j hj=>
  (q12 j (hin j hj)).imp (fun a=>⟨a.2.2.1,a.2.2.2.1,a.2.2.2.2.1,a.2.2.2.2.2⟩) (fun a=>⟨by rw[a.2],by rw[a.2]⟩)
 have hsmall:∀ j,j<3→(g' j).D.length≤n+1:=fun j hj=>by
  rcases hT j hj with a|a
  ·rw[a.2.1,Ry,Sj];omega
  ·rw[a.1];have:=h.small j hj;omega
 have hprm:=h.pr.mono (show n≤n+1 by omega)
 by_cases hlen:hv.length<2
 ·rw[Rx hlen]
  refine⟨g',K,⟨q2,rfl,by show W.cl.length=16;rw[q4];exact h.cl,hprm.took hl0 x1 n2 n4 n3 hT (fun j _=>q10 j),q8,hsmall,fun h0=>absurd h0 (show ¬ (0:Int)≤-1 by decide),fun h0=>absurd h0 (show ¬ (0:Int)≤-1 by decide),by show W.done.Sublist K;rw[q6];exact h.ack,fun m hm=>?_⟩,q7,fun hc=>absurd hc (show ¬ (16:Int)=0 by decide),fun _=>q6⟩;have hc:W.resign.c m=w.c m:=by show W.cl.getD m default=w.cl.getD m default;rw[q4]
  rw[hc];exact⟨(h.cli m hm).1,((h.cli m hm).2.up (by omega)).gone _⟩
 rw[Rw hlen];have hhv:∀ j,j∈hv→j<3:=fun j hj=>by have:=q1.subset hj;simp at this;omega
 have hWup:∀ j,j<3→W.f j=true→(W.s j).up=true:=fun j hj hf=>by
  rcases q12 j (hin j hj) with a|a
  ·rw[(q9 j).1];exact(h.fol hl0 j hj a.2.1).1
  ·rw[a.1] at hf;cases hf
 obtain⟨c1,c2,c3,c4,c5,c6,c7,c8,c9,c10⟩:=tq (g:=g') hv W [] (fun j hj=>⟨hhv j hj,hWup j (hhv j hj) (q13 j hj).1⟩) q2 q8;have hlin:=q14 w.leader.toNat (by omega) (hin _ hli) hlf;have hlx:=q13 _ hlin;have hack:=hprm.ackd hl0 x1 n2 n4 n3 hT (fun j _=>q10 j) hlx.2.1 ((OP q1 (by omega)).mono fun j _ hj=>(q13 j hj).2);unfold lN;simp only;generalize bn hv W []=R at c1 c2 c3 c4 c5 c6 c7 c8 c9 c10 ⊢;rw[Rw (fun h=>h c1)];have hRl:R.1.leader=w.leader:=by rw[c5,q5]
 have hRc:R.1.cl=w.cl:=by rw[c4,q4]
 have hlast:aA (g w.leader.toNat).D≤aA (g' w.leader.toNat).D:=by rw[hlx.2.1,fQ];omega
 have hwi:XS { R.1 with done:=R.1.done++[x] } g' es ((g w.leader.toNat).D++[x]) (n+1):=by
  refine⟨c2,by show R.1.fl.length=3;rw[c3];exact q3,by show R.1.cl.length=16;rw[hRc];exact h.cl,by show Pr g' R.1.leader es _ _;rw[hRl];exact hack,c8,hsmall,fun _=>?_,fun _ j hj hf=>?_,?_,fun m hm=>?_⟩
  ·show R.1.fl.getD R.1.leader.toNat false=true∧(R.1.s R.1.leader.toNat).peer.done=((g' R.1.leader.toNat).D.length:Int)
   rw[hRl,c3];exact⟨hlx.1,c10 _ (.inl hlin)⟩
  ·show(R.1.s j).up=true∧(g' j).D=(g' R.1.leader.toNat).D
   have hfj:W.f j=true:=by have:R.1.fl.getD j false=true:=hf;rw[c3] at this;exact this
   rw[hRl,c9,hlx.2.1];refine⟨hWup j hj hfj,?_⟩;rcases q12 j (hin j hj) with a|a
   ·exact a.2.2.2.1
   ·rw[a.1] at hfj;cases hfj
  ·show(R.1.done++[x]).Sublist _
   rw[c6,q6];exact(h.ack.trans (h.pr.k3 hl0).sublist).append (To _)
  ·have hc:({ R.1 with done:=R.1.done++[x] }:AWorld).c m=w.c m:=by show R.1.cl.getD m default=w.cl.getD m default;rw[hRc]
   rw[hc];refine⟨(h.cli m hm).1,?_⟩;show Old R.1.leader es (g' R.1.leader.toNat).D (n+1) _;rw[hRl];exact((h.cli m hm).2.up (by omega)).more hlast
 have ht:=hwi.tell R.2.1;have hwho:d.client.toNat<16:=by omega
 have hcwho:(dq { R.1 with done:=R.1.done++[x] } R.2.1).c d.client.toNat=⟨(w.c d.client.toNat).session,(w.c d.client.toNat).seen,dS (w.c d.client.toNat).session (w.c d.client.toNat).cache R.2.1⟩:=by
  rw[uE (by show d.client.toNat<R.1.cl.length;rw[hRc,h.cl];exact hwho)];have hc:({ R.1 with done:=R.1.done++[x] }:AWorld).c d.client.toNat=w.c d.client.toNat:=by show R.1.cl.getD _ default=w.cl.getD _ default;rw[hRc]
  rw[hc]
 have hseen:(w.c d.client.toNat).seen≤x.zxid:=by have ho:=(h.cli _ hwho).2;rcases ho.2.2.2 hl0 with a|a<;>omega
 have hsee:gw ((dq { R.1 with done:=R.1.done++[x] } R.2.1).c d.client.toNat) x.zxid=(⟨(w.c d.client.toNat).session,x.zxid,dS (w.c d.client.toNat).session (w.c d.client.toNat).cache R.2.1⟩,0):=by rw[hcwho];unfold gw;rw[Rw (by simp only;omega)]
 rw[hsee,Rw (fun h=>h rfl)];refine⟨g',_,XS.setC ht hwho (h.cli _ hwho).1 ?_,?_,fun _=>⟨x,?_,rfl⟩,fun hc=>absurd rfl hc⟩
 ·show Old R.1.leader es (g' R.1.leader.toNat).D (n+1) x.zxid
  rw[hRl,hlx.2.1];have hes:=h.pr.es0;exact⟨by omega,by omega,n3,fun _=>.inr (by rw[fQ];exact Su _)⟩
 ·show R.1.deeds=w.deeds
  rw[c7,q7]
 ·show R.1.done++[x]=w.done++[x]
  rw[c6,q6]
theorem GT:gz []=0:=by decide +kernel
theorem Jp{i:Nat}(hi:i<3):cK i []=(⟨true,⟨mkD none [] []⟩,⟨i,0,[],0⟩,t00,[]⟩,0):=by unfold cK;rw[Rw (by omega),FM,Rw (fun h=>h rfl),GT]
theorem KX{i:Nat}(hi:i<3):gE.s i=⟨true,⟨mkD none [] []⟩,⟨i,0,[],0⟩,t00,[]⟩:=by
 have:gE.s i=(cK i []).1:=by
  have hc:i=0∨i=1∨i=2:=by omega
  rcases hc with rfl|rfl|rfl<;>rfl
 rw[this,Jp hi]
theorem Pz{i:Nat}(hi:i<16):gE.c i=⟨(i:Int)+1,0,[]⟩:=by unfold gE AWorld.c;simp only;rw[Ru,RF,Rv (by simpa using hi),Ub];rfl
theorem Lv(i:Int):XV ⟨true,⟨mkD none [] []⟩,⟨i,0,[],0⟩,t00,[]⟩ none 0:=
 ⟨rfl,rfl,RE _,nk,by simp[fF],fun x hx=>(by cases hx),Su _,Su _,rfl,⟨t00,rfl⟩⟩
theorem XS.start:XS gE (fun _=>⟨[],0,0⟩) 0 [] 0:=by
 refine⟨rfl,rfl,rfl,Pr.start,fun j hj=>?_,fun _ _=>RE _,fun h=>absurd h (show ¬ (0:Int)≤-1 by decide),fun h=>absurd h (show ¬ (0:Int)≤-1 by decide),To _,fun i hi=>?_⟩
 ·rw[KX hj]
  exact⟨rfl,fun _=>⟨none,.inl ⟨rfl,rfl⟩,Lv _,rfl,rfl⟩,fun h=>(by cases h)⟩
 ·rw[Pz hi]
  exact⟨rfl,Pr.start.zero⟩
theorem XS.act{w:AWorld}{g:Nat→Gh}{es:Int}{K:List ATxn}{n:Nat}(h:XS w g es K n)(hn:n<1000)(d:XO):∃ g' es' K',XS (qW w d).1 g' es' K' (n+1):=by
 unfold qW;split
 ·obtain⟨g',K',hh,_⟩:=h.write hn d;exact⟨g',es,K',hh⟩
 split
 ·exact⟨g,es,K,(h.read d).mono (by omega)⟩
 split
 ·obtain⟨g',es',hh,_⟩:=h.elect hn;exact⟨g',es',K,hh⟩
 split
 ·split
  ·exact⟨g,es,K,h.mono (by omega)⟩
  split
  ·exact⟨g,es,K,(h.up (by omega)).mono (by omega)⟩
  ·obtain⟨g',hh⟩:=h.crash (i:=d.server.toNat) (by omega) d.keep
   exact⟨g',es,K,hh.mono (by omega)⟩
 ·exact⟨g,es,K,h.mono (by omega)⟩
theorem XS.does{w:AWorld}{g:Nat→Gh}{es:Int}{K:List ATxn}{n:Nat}(h:XS w g es K n)(hn:n<1000)(d:XO):∃ g' es' K',XS (doW w d).1 g' es' K' (n+1):=by
 unfold doW;split
 ·exact⟨g,es,K,h.mono (by omega)⟩
 ·exact(h.deeds (w.deeds+1)).act hn d
def jX(w:AWorld)(l:List XO):AWorld:=l.foldl (fun w d=>(doW w d).1) w
theorem XS.trees{w:AWorld}{g:Nat→Gh}{es:Int}{K:List ATxn}{n:Nat}(h:XS w g es K n){j:Nat}(hj:j<3) :
  0≤(w.s j).peer.done∧(w.s j).peer.done≤(w.s j).peer.log.length∧cu t00 ((w.s j).peer.log.take (w.s j).peer.done.toNat)=some (w.s j).tree∧aS (w.s j).tree=true:=by
 have hs:=h.sv j hj;cases hu:(w.s j).up
 ·obtain⟨e,_,hk,_⟩:=hs.2.2 hu
  rw[hk.done,hk.log,hk.tree];exact⟨Su _,Su _,rfl,pb⟩
 ·obtain⟨e,_,hk,_⟩:=hs.2.1 hu
  exact⟨hk.d0,hk.dl,hk.tree,qF pb hk.tree⟩
theorem cY{z:Int}(h0:0≤z)(h1:z<9223372036854775808):okI z:=by unfold okI;omega
theorem mf{t:XI}(hg:aS t=true):okT t∧t.nodes.length≤400∧t.sessions.length≤2147483647∧∀ n,n∈t.nodes→n.path.length≤200∧n.data.length≤256:=by
 obtain⟨p1,p2⟩:=yv hg;obtain⟨h1,h2,_,_⟩:=bi.1 hg;obtain⟨_,h3⟩:=mu.1 h2;have hz:=h1.2.2.2.2;unfold bd at hz;have hl:=mc hg;have hn:∀ n,n∈t.nodes→n.path.length≤200∧n.data.length≤256:=fun n hn=>⟨(ku (p1.good _ (TZ hn))).2.2.1,(p2 n hn).data⟩
 refine⟨⟨⟨cY hz.1 (by omega),⟨by have:=h1.2.1;omega,fun n hm=>?_⟩,⟨by omega,fun s hs=>?_⟩⟩,fun n hm=>by have:=(hn n hm).1;omega⟩,h1.2.1,hl,hn⟩
 ·have hk:=p2 n hm
  have hs:=hn n hm;obtain⟨z1,z2,z3,z4,z5⟩:=hk.zs;have hkl:=vD (ar t) n.path;have hl4:=p1.len;have hkk:=hk.kids;refine⟨by unfold okS;omega,by unfold okS;omega,cY z1 (by omega),cY (by omega) (by omega),cY (by omega) (by omega),cY hk.v.1 (by have:=hk.v.2;omega),cY hk.cv.1 (by have:=hk.cv.2;omega),?_,cY (by omega) (by omega)⟩
  by_cases ho:n.stat.owner=0
  ·rw[ho];exact cY (by decide) (by decide)
  ·have:=h3 _ (hk.own ho).1
   exact cY (by omega) (by omega)
 ·have:=h3 s hs
  exact cY (by omega) (by omega)
theorem CF{x:ATxn}(h:aT x=0):x.wf∧x.path.length≤200:=by obtain⟨g1,g2,g3,g4,g5,g6,g7⟩:=fU h;exact⟨⟨cY g1.1 g1.2,cY (by omega) (by omega),cY (by omega) (by omega),by unfold okS;omega,by unfold okS;omega,cY (by omega) (by omega),cY (by omega) (by omega)⟩,g6⟩
theorem HP{e:Option (List UInt8)}{s t:List UInt8}(h:okD e s t):XQ.wf ⟨mkD e s t⟩:=by
 have hn1:okS epN:=by unfold okS;decide
 have hn2:okS logN:=by unfold okS;decide
 have h0:okS []:=by unfold okS;decide
 have h2:=h.2;cases e with
 |none=>exact⟨by simp[mkD],fun f hf=>by rw[SM.1 hf];exact⟨hn2,by show s.length≤_;omega,by show t.length≤_;omega⟩⟩
 | some x=>
   have:=h.1 x rfl;refine⟨by simp[mkD],fun f hf=>?_⟩;rcases RP.1 hf with e|e
   ·rw[e];exact⟨hn1,by show x.length≤_;omega,h0⟩
   ·rw[SM.1 e];exact⟨hn2,by show s.length≤_;omega,by show t.length≤_;omega⟩
def fI(l:List AWatch):Prop:=l.length≤400∧∀ x,x∈l→x.wf∧x.path.length≤200
theorem fI.sub{l m:List AWatch}(h:fI l)(hs:m.Sublist l):fI m:=⟨RW hs.length_le h.1,fun x hx=>h.2 x (hs.subset hx)⟩
theorem fI.nil:fI []:=⟨RI _,fun x hx=>by cases hx⟩
theorem fI.add{l:List AWatch}(h:fI l){x:AWatch}(hx:(jE l x).2=0):fI (jE l x).1:=by
 unfold jE at hx ⊢;split
 ·exact fI.nil
 rename_i h1;rw[Rw h1] at hx;split
 ·exact fI.nil
 rename_i h2;rw[Rw h2] at hx;split
 ·exact fI.nil
 rename_i h3;rw[Rw h3] at hx;split
 ·exact h
 rename_i h4;rw[Rw h4] at hx;split
 ·exact fI.nil
 rename_i h5;have hp:=(ku (Tn.1 h2)).2.2.1;refine⟨by simp only[Ry,Sj];omega,fun y hy=>?_⟩;rcases Sh.1 hy with e|e
 ·exact h.2 y e
 ·rw[SM.1 e]
  exact⟨⟨cY (by omega) (by omega),cY (by omega) (by omega),by unfold okS;omega⟩,hp⟩
theorem tf:∀(es:List XL) (p:List XJ×List AWatch),(es.foldl mj p).2.Sublist p.2
 |[],p=>To _
 |e::es,p=>(tf es (mj p e)).trans (by unfold mj keptW;exact VC)
theorem AU:∀(X:List ATxn) (p:CSt),(iW X p).1.w.Sublist p.w
 |[],p=>To _
 | x :: X,p=>by
   rw[iW];split
   ·refine(AU X _).trans ?_
    unfold jv;simp only;split
    ·exact VC.trans (tf _ _)
    ·exact tf _ _
   ·exact To _
theorem commit_sub(s:XH)(n:Int):(au s n).1.watches.Sublist s.watches:=by
 unfold au;split
 ·exact TO _
 ·simp only
  split
  ·exact AU _ _
  ·exact TO _
theorem ji.wf{s:XH}{g:Gh}{j n:Nat}(h:ji s g j)(hj:j<3)(hn:g.D.length≤n)(hn2:n<100000)(hE:0≤g.E∧g.E≤n)(hw:fI s.watches):s.wf∧okT s.tree∧aS s.tree=true∧∀ x,x∈s.peer.log→x.wf∧x.path.length≤200:=by
 obtain⟨hid,h1,h2⟩:=h;have hwl:=hw.1;have hww:s.watches.length*32≤140737488351232∧∀ y:AWatch,y∈s.watches→y.wf:=⟨by omega,fun y hy=>(hw.2 y hy).1⟩;have hidk:okI s.peer.id:=by rw[hid];exact cY (by omega) (by omega)
 cases hu:s.up
 ·obtain⟨e,_,hk,_⟩:=h2 hu
  obtain⟨c,c1,c2,_⟩:=hk.disk;have hg:aS s.tree=true:=by rw[hk.tree];exact pb
  have hdw:s.disk.wf:=by have:=HP (e:=e) (s:=c) (t:=[]) ⟨hk.elen,by simpa using c2⟩;unfold XQ.wf at this ⊢;rw[c1];exact this
  refine⟨⟨X5,hdw,⟨hidk,by rw[hk.ep];exact cY (by decide) (by decide),⟨by rw[hk.log];simp,fun x hm=>by rw[hk.log] at hm;cases hm⟩,by rw[hk.done];exact cY (by decide) (by decide)⟩,(mf hg).1.1,hww⟩,(mf hg).1,hg,fun x hm=>by rw[hk.log] at hm;cases hm⟩
 ·obtain⟨e,_,hk,hlg,hep⟩:=h1 hu
  have hg:aS s.tree=true:=qF pb hk.tree;have hdw:s.disk.wf:=by have:=HP hk.okD;unfold XQ.wf at this ⊢;rw[hk.disk];exact this
  have hx:∀ x,x∈s.peer.log→x.wf∧x.path.length≤200:=fun x hx=>CF (hk.log.2 x hx)
  have hd0:=hk.d0;have hdl:=hk.dl;rw[hlg] at hdl;exact⟨⟨X5,hdw,⟨hidk,by rw[hep];exact cY hE.1 (by omega),⟨by rw[hlg];omega,fun x hm=>(hx x hm).1⟩,cY hd0 (by omega)⟩,(mf hg).1.1,hww⟩,(mf hg).1,hg,hx⟩
def cJ(w:AWorld):Prop:=∀ j,fI (w.s j).watches
theorem Kl(w:AWorld)(i:Nat)(s:XH)(j:Nat):(w.setS i s).s j=s∨(w.setS i s).s j=w.s j:=by
 by_cases h:i<w.sv.length
 ·rw[fv h]
  split
  ·exact .inl rfl
  ·exact .inr rfl
 ·right
  unfold AWorld.setS AWorld.s;simp only;rw[V0 (by omega)]
theorem cJ.set{w:AWorld}(h:cJ w){s:XH}(hs:fI s.watches)(i:Nat):cJ (w.setS i s):=fun j=>by
 rcases Kl w i s j with e|e
 ·rw[e];exact hs
 ·rw[e];exact h j
theorem take_sub(s:XH)(x:ATxn)(safe:Bool):(bg s x safe).1.watches.Sublist s.watches:=by
 unfold bg;split
 ·exact TO _
 ·split
  ·exact To _
  ·exact TO _
theorem wF:∀(r:List ATxn) (s:XH),(eV s r).1.watches.Sublist s.watches
 |[],s=>To _
 | x::r,s=>by
   rw[eV];split
   ·exact(wF r _).trans (take_sub s x true)
   ·exact TO _
theorem jA(s:XH)(l:List ATxn)(ep:Int):(aG s l ep).1.watches.Sublist s.watches:=by
 unfold aG;split
 ·exact TO _
 split
 ·exact TO _
 split
 ·exact TO _
 exact wF _ _
theorem crash_sub(s:XH)(keep:Int):(bR s keep).1.watches=[]:=by
 unfold bR
 split<;>rfl
theorem boot_sub(i:Int)(l:List AFile):(cK i l).1.watches=[]:=by
 unfold cK;split
 ·rfl
 split<;>rfl
theorem og{l:List ATxn}{ep:Int}:∀(r:List Nat) {w:AWorld} {ns:List XJ},cJ w→cJ (bH l ep r w ns).1
 |[],w,ns,h=>h
 | i::r,w,ns,h=>by
   rw[bH];split
   ·exact og r h
   split
   ·exact h
   split
   ·exact h
   refine og r ?_
   have:fI (au (aG (w.s i) l ep).1 l.length).1.watches:=((h i).sub (jA _ _ _)).sub (commit_sub _ _);exact h.set this i
theorem kx{x:ATxn}{lead lost slow:Int}:∀(r:List Nat) {w:AWorld} {hv:List Nat},cJ w→cJ (bW x lead lost slow r w hv).1
 |[],w,hv,h=>h
 | i::r,w,hv,h=>by
   rw[bW];split
   ·exact kx r h
   split
   ·exact kx r (w:=w.setF i false) h
   split
   ·exact h
   exact kx r (h.set ((h i).sub (take_sub _ _ _)) i)
theorem rR:∀(r:List Nat) {w:AWorld} {ns:List XJ},cJ w→cJ (bn r w ns).1
 |[],w,ns,h=>h
 | i::r,w,ns,h=>by
   rw[bn];split
   ·exact h
   exact rR r (h.set ((h i).sub (commit_sub _ _)) i)
theorem cJ.act{w:AWorld}(h:cJ w)(d:XO):cJ (qW w d).1:=by
 unfold qW;split
 ·unfold dx
  split
  ·exact h
  split
  ·exact h
  split
  ·exact h
  simp only;split
  ·exact h
  have ht:=kx (x:=(bA (w.s w.leader.toNat).tree (cD (w.s w.leader.toNat).peer).1 (kC w d)).1) (lead:=w.leader) (lost:=d.lost) (slow:=d.slow) [0,1,2] (hv:=[]) h;generalize bW _ _ _ _ _ _ _=R at ht ⊢;split
  ·exact ht
  split
  ·exact ht
  unfold lN;simp only;have hc:=rR R.2.1 (ns:=[]) ht;generalize bn _ _ _=Q at hc ⊢;split
  ·exact hc
  split
  ·exact hc
  ·exact hc
 split
 ·unfold ib
  split
  ·exact h
  simp only;split
  ·exact h
  split
  ·exact h
  split
  ·split
   ·exact h
   ·rename_i ha
    refine cJ.set (w:=w) h ?_ d.server.toNat;exact(h d.server.toNat).add (Tn.1 ha)
  ·exact h
 split
 ·unfold dj
  split
  ·exact h
  simp only;have ht:=og (l:=((bS w).getD (bQ (bS w)).1.toNat default).log) (ep:=(bQ (bS w)).2.1) [0,1,2] (w:=w.resign) (ns:=[]) h;generalize bH _ _ _ _ _=R at ht ⊢;split
  ·exact ht
  ·exact ht
 split
 ·split
  ·exact h
  split
  ·unfold upW
   split
   ·exact h
   split
   ·exact h
   exact h.set (by rw[boot_sub];exact fI.nil) _
  ·unfold iu
   split
   ·exact h
   split
   ·exact h
   have hs:cJ (w.setS d.server.toNat (bR (w.s d.server.toNat) d.keep).1):=h.set (by rw[crash_sub];exact fI.nil) _;simp only;split
   ·exact hs
   ·exact hs
 ·exact h
theorem cJ.does{w:AWorld}(h:cJ w)(d:XO):cJ (doW w d).1:=by
 unfold doW;split
 ·exact h
 ·exact cJ.act (w:={ w with deeds:=w.deeds+1 }) h d
theorem cJ.start:cJ gE:=fun j=>by
 by_cases h:j<3
 ·rw[KX h];exact fI.nil
 ·have:gE.s j=default:=by
   unfold AWorld.s;rw[Ru,RX (by show 3≤j;omega)];rfl
  rw[this];exact fI.nil
theorem k7{l:List ATxn}{ep:Int}:∀(r:List Nat) (w:AWorld) (ns:List XJ),(bH l ep r w ns).1.deeds=w.deeds
 |[],w,ns=>rfl
 | i::r,w,ns=>by
   rw[bH];split
   ·exact k7 r w ns
   split
   ·rfl
   split
   ·rfl
   rw[k7 r];rfl
theorem jJ{x:ATxn}{lead lost slow:Int}:∀(r:List Nat) (w:AWorld) (hv:List Nat),(bW x lead lost slow r w hv).1.deeds=w.deeds
 |[],w,hv=>rfl
 | i::r,w,hv=>by
   rw[bW];split
   ·exact jJ r w hv
   split
   ·rw[jJ r];rfl
   split
   ·rfl
   rw[jJ r];rfl
theorem nY:∀(r:List Nat) (w:AWorld) (ns:List XJ),(bn r w ns).1.deeds=w.deeds
 |[],w,ns=>rfl
 | i::r,w,ns=>by
   rw[bn];split
   ·rfl
   rw[nY r];rfl
theorem GG(w:AWorld)(d:XO):(qW w d).1.deeds=w.deeds:=by
 unfold qW;split
 ·unfold dx
  split
  ·rfl
  split
  ·rfl
  split
  ·rfl
  simp only;split
  ·rfl
  have ht:=jJ (x:=(bA (w.s w.leader.toNat).tree (cD (w.s w.leader.toNat).peer).1 (kC w d)).1) (lead:=w.leader) (lost:=d.lost) (slow:=d.slow) [0,1,2] w [];generalize bW _ _ _ _ _ _ _=R at ht ⊢;split
  ·exact ht
  split
  ·exact ht
  unfold lN;simp only;have hc:=nY R.2.1 R.1 [];generalize bn _ _ _=Q at hc ⊢;split
  ·exact hc.trans ht
  split
  ·exact hc.trans ht
  ·exact hc.trans ht
 split
 ·unfold ib
  split
  ·rfl
  simp only;split
  ·rfl
  split
  ·rfl
  split
  ·split
   ·rfl
   ·rfl
  ·rfl
 split
 ·unfold dj
  split
  ·rfl
  simp only;have ht:=k7 (l:=((bS w).getD (bQ (bS w)).1.toNat default).log) (ep:=(bQ (bS w)).2.1) [0,1,2] w.resign [];generalize bH _ _ _ _ _=R at ht ⊢;split
  ·exact ht
  ·exact ht
 split
 ·split
  ·rfl
  split
  ·unfold upW
   split
   ·rfl
   split
   ·rfl
   ·rfl
  ·unfold iu
   split
   ·rfl
   split
   ·rfl
   simp only;split
   ·rfl
   ·rfl
 ·rfl
theorem Jl{w:AWorld}(h:w.deeds<300)(d:XO):(doW w d).1.deeds=w.deeds+1:=by unfold doW;rw[Rw (by omega),GG]
theorem Nv{w:AWorld}(h:300≤w.deeds)(d:XO):doW w d=(w,noR 6):=by unfold doW;rw[Rx h]
theorem wA{l:List (List UInt8)}:aE l↔l.Pairwise (fun a b=>a<b):=by
 have gd (j:Nat) (hj:j<l.length):l.getD j []=l[j]:=by rw[Ru,Rv hj];rfl
 constructor
 ·intro h
  refine SO.2 fun i j hi hj hij=>?_
  have:=aV h hij hj;rwa[gd i hi,gd j hj] at this
 ·intro h k hk
  rw[gd k (by omega),gd (k+1) hk];exact SO.1 h k (k+1) (by omega) hk (by omega)
def fL(l:List AEntry)(n:Nat):Prop:=aE (l.map AEntry.path)∧l.length≤n∧∀ e,e∈l→e.path.length≤200∧e.data.length≤256
theorem fL.sub{l m:List AEntry}{n:Nat}(h:fL l n)(hs:m.Sublist l):fL m n:=
 ⟨wA.2 ((wA.1 h.1).sublist (hs.map _)),RW hs.length_le h.2.1,fun e he=>h.2.2 e (hs.subset he)⟩
theorem fL.nil(n:Nat):fL [] n:=⟨fun k hk=>absurd hk (by simp),RI _,fun e he=>by cases he⟩
theorem fL.mono{l:List AEntry}{n m:Nat}(h:fL l n)(hm:n≤m):fL l m:=⟨h.1,RW h.2.1 hm,h.2.2⟩
theorem qN(s:Int):∀(ns:List XJ) (l:List AEntry),(dS s l ns).Sublist l
 |[],l=>To _
 | a::ns,l=>by
   have h:=qN s ns (lR s l a);refine(show(dS s l (a::ns)).Sublist (lR s l a) from h).trans ?_;unfold lR;split
   ·exact VC
   ·exact To _
theorem BB{e:AEntry}(h:e.path.length≤200∧e.data.length≤256):(normE e).path=e.path∧(normE e).path.length≤200∧(normE e).data.length≤256:=by
 unfold normE;split
 ·exact⟨rfl,h⟩
 ·exact⟨rfl,h.1,RI _⟩
theorem fL.keep{l:List AEntry}{n:Nat}(h:fL l n){e:AEntry}(he:e.path.length≤200∧e.data.length≤256):fL (fO l e) (n+1):=by
 obtain⟨h1,h2,h3⟩:=h;obtain⟨e1,e2,e3⟩:=BB he;unfold fO;split
 ·rename_i hm
  have hf:=ag h1 hm;have hi:place (l.map AEntry.path) e.path<l.length:=by have:=hf.1;rwa[RC] at this
  refine⟨?_,by rw[RQ];omega,fun x hx=>?_⟩
  ·have:(l.set (place (l.map AEntry.path) e.path) (normE e)).map AEntry.path=l.map AEntry.path:=by
    rw[Uw,e1];apply SD;intro j;rw[Tc];split
    ·rename_i ej;subst ej
     rw[Rx hf.1]
     have:=hf.2;rw[Ru,Rv hf.1] at this;rw[Rv hf.1];exact congrArg some this.symm
    ·rfl
   rw[this];exact h1
  ·rcases S1 hx with hx|hx
   ·exact h3 x hx
   ·rw[hx];exact⟨e2,e3⟩
 ·rename_i hm
  have hp:=fc (l.map AEntry.path) e.path;rw[RC] at hp;refine⟨?_,by rw[dB _ _ _ hp];omega,fun x hx=>?_⟩
  ·have:(l.insertIdx (place (l.map AEntry.path) e.path) (normE e)).map AEntry.path=(l.map AEntry.path).insertIdx (place (l.map AEntry.path) e.path) e.path:=by
    rw[←lv,e1]
   rw[this];exact nL h1 hm
  ·rcases(TM hp).1 hx with hx|hx
   ·rw[hx];exact⟨e2,e3⟩
   ·exact h3 x hx
theorem rj{l:List ATxn}{ep:Int}:∀(r:List Nat) (w:AWorld) (ns:List XJ),(bH l ep r w ns).1.cl=w.cl
 |[],w,ns=>rfl
 | i::r,w,ns=>by
   rw[bH];split
   ·exact rj r w ns
   split
   ·rfl
   split
   ·rfl
   rw[rj r];rfl
theorem mt{x:ATxn}{lead lost slow:Int}:∀(r:List Nat) (w:AWorld) (hv:List Nat),(bW x lead lost slow r w hv).1.cl=w.cl
 |[],w,hv=>rfl
 | i::r,w,hv=>by
   rw[bW];split
   ·exact mt r w hv
   split
   ·rw[mt r];rfl
   split
   ·rfl
   rw[mt r];rfl
theorem oT:∀(r:List Nat) (w:AWorld) (ns:List XJ),(bn r w ns).1.cl=w.cl
 |[],w,ns=>rfl
 | i::r,w,ns=>by
   rw[bn];split
   ·rfl
   rw[oT r];rfl
def cq(l:List XM)(n:Nat):Prop:=∀ c,c∈l→fL c.cache n
theorem cq.mono{l:List XM}{n m:Nat}(h:cq l n)(hm:n≤m):cq l m:=fun c hc=>(h c hc).mono hm
theorem cq.tell{w:AWorld}{n:Nat}(h:cq w.cl n)(ns:List XJ):cq (dq w ns).cl n:=fun c hc=>by obtain⟨c0,h1,rfl⟩:=SJ.1 hc;exact(h c0 h1).sub (qN _ _ _)
theorem cq.set{l:List XM}{n:Nat}(h:cq l n){c:XM}(hc:fL c.cache n)(i:Nat):cq (l.set i c) n:=fun x hx=>by
 rcases S1 hx with hx|hx
 ·exact h x hx
 ·rw[hx];exact hc
theorem cq.getD{l:List XM}{n:Nat}(h:cq l n)(i:Nat):fL (l.getD i default).cache n:=by
 by_cases hi:i<l.length
 ·exact h _ (aZ l i hi)
 ·rw[Ru,RX (by omega)]
  exact fL.nil n
theorem seeC_cache{c:XM}{n:Nat}(h:fL c.cache n)(z:Int):fL (gw c z).1.cache n:=by
 unfold gw;split
 ·exact fL.nil n
 ·exact h
theorem tree_data{t:XI}(hg:aS t=true)(p:List UInt8):(aw t p).1.data.length≤256:=by
 unfold aw;split
 ·rename_i hm
  have hf:=ag (aF hg) hm;have hpl:=hf.1;rw[aK] at hpl;exact((mf hg).2.2.2 _ (mK hpl)).2
 ·exact RI _
theorem y6{l:List AWatch}{x:AWatch}(h:(jE l x).2=0):x.path.length≤200:=by
 unfold jE at h;split at h
 ·exact absurd h (by decide)
 split at h
 ·exact absurd h (by decide)
 rename_i h2;exact(ku (Tn.1 h2)).2.2.1
theorem cq.act{w:AWorld}{n:Nat}(h:cq w.cl n)(hg:∀ j,j<3→aS (w.s j).tree=true)(d:XO):cq (qW w d).1.cl (n+1):=by
 have h1:cq w.cl (n+1):=h.mono (by omega);unfold qW;split
 ·unfold dx
  split
  ·exact h1
  split
  ·exact h1
  split
  ·exact h1
  simp only;split
  ·exact h1
  have ht:=mt (x:=(bA (w.s w.leader.toNat).tree (cD (w.s w.leader.toNat).peer).1 (kC w d)).1) (lead:=w.leader) (lost:=d.lost) (slow:=d.slow) [0,1,2] w [];generalize bW _ _ _ _ _ _ _=R at ht ⊢;split
  ·simp only;rw[ht];exact h1
  split
  ·show cq R.1.cl (n+1);rw[ht];exact h1
  unfold lN;simp only;have hc:=oT R.2.1 R.1 [];generalize bn _ _ _=Q at hc ⊢;have hq:cq Q.1.cl (n+1):=by rw[hc,ht];exact h1
  split
  ·exact hq
  have hu:cq (dq { Q.1 with done:=Q.1.done++[(bA (w.s w.leader.toNat).tree (cD (w.s w.leader.toNat).peer).1 (kC w d)).1] } Q.2.1).cl (n+1):=cq.tell (w:={ Q.1 with done:=Q.1.done++[(bA (w.s w.leader.toNat).tree (cD (w.s w.leader.toNat).peer).1 (kC w d)).1] }) hq _;split
  ·exact hu
  ·exact hu.set (seeC_cache (hu.getD d.client.toNat) _) _
 split
 ·unfold ib
  split
  ·exact h1
  rename_i hd;simp only;split
  ·exact h1
  split
  ·exact h1
  have hs:=seeC_cache (h.getD d.client.toNat) (w.s d.server.toNat).tree.zxid;split
  ·split
   ·exact h1
   ·rename_i ha
    have hp:=y6 (Tn.1 ha);exact h1.set (hs.keep ⟨hp,tree_data (hg _ (by omega)) _⟩) _
  ·exact h1.set (hs.mono (by omega)) _
 split
 ·unfold dj
  split
  ·exact h1
  simp only;have ht:=rj (l:=((bS w).getD (bQ (bS w)).1.toNat default).log) (ep:=(bQ (bS w)).2.1) [0,1,2] w.resign [];generalize bH _ _ _ _ _=R at ht ⊢;have hR:cq R.1.cl (n+1):=by rw[ht];exact h1
  split
  ·exact hR
  ·exact cq.tell (w:={ R.1 with leader:=((bS w).getD (bQ (bS w)).1.toNat default).id }) hR _
 split
 ·split
  ·exact h1
  split
  ·unfold upW
   split
   ·exact h1
   split
   ·exact h1
   ·exact h1
  ·unfold iu
   split
   ·exact h1
   split
   ·exact h1
   simp only;split
   ·exact h1
   ·exact h1
 ·exact h1
theorem cq.does{w:AWorld}{n:Nat}(h:cq w.cl n)(hg:∀ j,j<3→aS (w.s j).tree=true)(d:XO):cq (doW w d).1.cl (n+1):=by
 unfold doW;split
 ·exact h.mono (by omega)
 ·exact cq.act (w:={ w with deeds:=w.deeds+1 }) h hg d
theorem cq.start:cq gE.cl 0:=fun c hc=>by obtain⟨i,_,rfl⟩:=SJ.1 hc;exact fL.nil 0
def dH(w:AWorld)(n:Nat):Prop:=(∃ g es K,XS w g es K n)∧cJ w∧cq w.cl n
theorem dH.start:dH gE 0:=⟨⟨_,_,_,XS.start⟩,cJ.start,cq.start⟩
theorem dH.does{w:AWorld}{n:Nat}(h:dH w n)(hn:n<1000)(d:XO):dH (doW w d).1 (n+1):=by obtain⟨⟨g,es,K,h1⟩,h2,h3⟩:=h;exact⟨h1.does hn d,h2.does d,h3.does (fun j hj=>(h1.trees hj).2.2.2) d⟩
theorem dH.server{w:AWorld}{n:Nat}(h:dH w n)(hn:n<1000){j:Nat}(hj:j<3):(w.s j).wf∧okT (w.s j).tree∧aS (w.s j).tree=true∧(∀ x,x∈(w.s j).peer.log→x.wf∧x.path.length≤200)∧fI (w.s j).watches:=by obtain⟨⟨g,es,K,h1⟩,h2,_⟩:=h;have hE:=h1.pr.E0 j hj;obtain⟨a,b,c,d⟩:=(h1.sv j hj).wf hj (h1.small j hj) (by omega) ⟨hE.1,hE.2⟩ (h2 j);exact⟨a,b,c,d,h2 j⟩
theorem dH.client{w:AWorld}{n:Nat}(h:dH w n)(hn:n<1000){i:Nat}(hi:i<16):(w.c i).wf∧(w.c i).session=(i:Int)+1∧fL (w.c i).cache n:=by
 obtain⟨⟨g,es,K,h1⟩,_,h3⟩:=h;have hc:=h1.cli i hi;have ho:=h3.getD i
 change fL (w.c i).cache n at ho
 have hes:=h1.pr.esn;obtain⟨o1,o2,o3,_⟩:=hc.2;refine⟨⟨by rw[hc.1];exact cY (by omega) (by omega),cY o1 (by omega),⟨by have:=ho.2.1;omega,fun e he=>?_⟩⟩,hc.1,ho⟩
 have:=ho.2.2 e he;exact⟨by unfold okS;omega,by unfold okS;omega,X5⟩
theorem BF:∀(X:List ATxn) (p:CSt),(iW X p).1.n.length+(iW X p).1.w.length≤p.n.length+p.w.length
 |[],p=>RE _
 | x::X,p=>by
   rw[iW];split
   ·exact RW (BF X _) (qt _ p x)
   ·exact RE _
theorem fb(s:XH)(n:Int):(au s n).2.1.length≤s.watches.length:=by
 unfold au;split
 ·exact RI _
 ·simp only
  split
  ·have:=BF ((s.peer.log.drop s.peer.done.toNat).take (n.toNat-s.peer.done.toNat)) ⟨s.tree,s.watches,[]⟩
   simp only[R1,SB] at this;simp only;omega
  ·exact RI _
theorem ou{l:List ATxn}{ep:Int}:∀(r:List Nat) {w:AWorld} {ns:List XJ},cJ w→(bH l ep r w ns).2.1.length≤ns.length+400*r.length
 |[],w,ns,h=>by rw[bH];simp
 | i::r,w,ns,h=>by
   rw[bH,RD];split
   ·have:=ou (l:=l) (ep:=ep) r (ns:=ns) h;omega
   split
   ·simp only;omega
   split
   ·simp only;omega
   have hf:=(h i).sub (jA (w.s i) l ep);have hc:=fb (aG (w.s i) l ep).1 l.length;have h4:=hf.1;have hw:cJ ((w.setS i (au (aG (w.s i) l ep).1 l.length).1).setF i true):=h.set (hf.sub (commit_sub _ _)) i
   have:=ou (l:=l) (ep:=ep) r (ns:=ns++(au (aG (w.s i) l ep).1 l.length).2.1) hw;rw[Ry] at this;omega
theorem rH:∀(r:List Nat) {w:AWorld} {ns:List XJ},cJ w→(bn r w ns).2.1.length≤ns.length+400*r.length
 |[],w,ns,h=>by rw[bn];simp
 | i::r,w,ns,h=>by
   rw[bn,RD];split
   ·simp only;omega
   have hc:=fb (w.s i) (w.s i).peer.log.length;have h4:=(h i).1
   have:=rH r (ns:=ns++(au (w.s i) (w.s i).peer.log.length).2.1) (h.set ((h i).sub (commit_sub (w.s i) ((w.s i).peer.log.length:Int))) i);rw[Ry] at this;omega
def B3(d:XO):XK:=⟨d.request.op,d.client+1,d.request.path,d.request.data,d.request.version,d.request.flags⟩
def Em(w:AWorld)(who:Nat)(x:ATxn)(hv:List Nat):AWorld×XN:=
 let r:=bn hv w []
 if r.2.2≠0 then(r.1,noR r.2.2) else
 let u:=dq { r.1 with done:=r.1.done++[x] } r.2.1
 (u.setC who ⟨(u.c who).session,x.zxid,(u.c who).cache⟩,⟨0,x.zxid,x.path,[],(aw (u.s u.leader.toNat).tree x.path).1.stat,r.2.1⟩)
def om(w:AWorld)(d:XO):AWorld×XN:=
 if d.client<0∨16≤d.client then(w,noR 3) else
 if w.leader<0 then(w,noR 14) else
 if(cD (w.s w.leader.toNat).peer).2≠0 then(w,noR (cD (w.s w.leader.toNat).peer).2) else
 let p:=bA (w.s w.leader.toNat).tree (cD (w.s w.leader.toNat).peer).1 (B3 d)
 if p.2≠0 then(w,noR p.2) else
 let r:=bW p.1 w.leader d.lost d.slow [0,1,2] w []
 if r.2.2≠0 then(r.1,noR r.2.2) else
 if r.2.1.length<2 then(r.1.resign,⟨16,p.1.zxid,[],[],default,[]⟩) else
 Em r.1 d.client.toNat p.1 r.2.1
theorem LO{w:AWorld}{who:Nat}{x:ATxn}(hv:List Nat)(hw:who<w.cl.length)(h:(w.c who).seen≤x.zxid):lN w who x hv=Em w who x hv:=by
 unfold lN Em;simp only;have hc:=oT hv w [];generalize bn hv w []=R at hc ⊢;split
 ·rfl
 have hcw:((dq { R.1 with done:=R.1.done++[x] } R.2.1).c who).seen=(w.c who).seen:=by rw[uE (by show who<R.1.cl.length;rw[hc];exact hw)];show(R.1.cl.getD who default).seen=(w.cl.getD who default).seen;rw[hc]
 generalize dq { R.1 with done:=R.1.done++[x] } R.2.1=u at hcw ⊢;have hs:gw (u.c who) x.zxid=(⟨(u.c who).session,x.zxid,(u.c who).cache⟩,0):=by unfold gw;rw[Rw (by omega)]
 rw[hs,Rw (fun h=>h rfl)]
theorem Hg{w:AWorld}{g:Nat→Gh}{es:Int}{K:List ATxn}{n:Nat}(h:XS w g es K n)(hn:n<1000)(d:XO):dx w d=om w d:=by
 unfold dx om
 by_cases hcl:d.client<0∨16≤d.client
 ·rw[Rx hcl,Rx hcl]
 rw[Rw hcl,Rw hcl]
 by_cases hld:w.leader<0
 ·rw[Rx hld,Rx hld]
 rw[Rw hld,Rw hld];have hwho:d.client.toNat<16:=by omega
 have hask:kC w d=B3 d:=by unfold kC B3;rw[(h.cli _ hwho).1,show((d.client.toNat:Nat):Int)=d.client by omega]
 rw[hask];have hl0:0≤w.leader:=by omega
 obtain⟨hl3,hlE⟩:=h.pr.ld0 hl0;have hli:w.leader.toNat<3:=by omega
 obtain⟨hlf,hldone⟩:=h.lead hl0;obtain⟨hlu,_⟩:=h.fol hl0 _ hli hlf;obtain⟨ee,he,hk,hlg,hep⟩:=(h.sv _ hli).2.1 hlu;obtain⟨z0,z1,z2⟩:=h.lastOk hli;obtain⟨n1,n2,n3,n4⟩:=za (p:=(w.s w.leader.toNat).peer) (n:=n) (by omega) h.pr.es0 h.pr.esn (by rw[hep,hlE]) (by rw[hlg];exact z0) (by rw[hlg];exact z1) (by rw[hlg];exact z2);have nn:¬ (cD (w.s w.leader.toNat).peer).2≠0:=fun h=>h n1
 rw[Rw nn,Rw nn];simp only
 by_cases hpz:(bA (w.s w.leader.toNat).tree (cD (w.s w.leader.toNat).peer).1 (B3 d)).2=0
 case neg=>
  have np:(bA (w.s w.leader.toNat).tree (cD (w.s w.leader.toNat).peer).1 (B3 d)).2≠0:=hpz;rw[Rx np,Rx np]
 have np:¬ (bA (w.s w.leader.toNat).tree (cD (w.s w.leader.toNat).peer).1 (B3 d)).2≠0:=fun h=>h hpz
 rw[Rw np,Rw np];obtain⟨p1,_⟩:=sW hpz;generalize (bA (w.s w.leader.toNat).tree (cD (w.s w.leader.toNat).peer).1 (B3 d)).1=x at p1 ⊢;rw[←p1] at n2 n3 n4;rw[hlg] at n4;have hseen:(w.c d.client.toNat).seen≤x.zxid:=by have ho:=(h.cli _ hwho).2;rcases ho.2.2.2 hl0 with a|a<;>omega
 have hc:=mt (x:=x) (lead:=w.leader) (lost:=d.lost) (slow:=d.slow) [0,1,2] w [];generalize bW x w.leader d.lost d.slow [0,1,2] w []=R at hc ⊢;split
 ·rfl
 split
 ·rfl
 refine LO _ (by rw[hc,h.cl];exact hwho) ?_;show(R.1.cl.getD _ default).seen≤_;rw[hc];exact hseen
theorem mT{x:ATxn}{lead lost slow:Int}:∀(r:List Nat) (w:AWorld) (hv:List Nat),(bW x lead lost slow r w hv).2.1.length≤hv.length+r.length
 |[],w,hv=>RE _
 | i :: r,w,hv=>by
   rw[bW,RD];split
   ·have:=mT (x:=x) (lead:=lead) (lost:=lost) (slow:=slow) r w hv;omega
   split
   ·have:=mT (x:=x) (lead:=lead) (lost:=lost) (slow:=slow) r (w.setF i false) hv;omega
   split
   ·simp only;omega
   split
   ·have:=mT (x:=x) (lead:=lead) (lost:=lost) (slow:=slow) r (w.setS i (bg (w.s i) x (decide (lead=i)||!oP slow i)).1) (hv++[i])
    rw[Ry,Sj] at this;omega
   ·have:=mT (x:=x) (lead:=lead) (lost:=lost) (slow:=slow) r (w.setS i (bg (w.s i) x (decide (lead=i)||!oP slow i)).1) hv;omega
theorem Hi{w:AWorld}(hw:cJ w)(d:XO):(qW w d).2.notes.length≤1200:=by
 unfold qW;split
 ·unfold dx
  split
  ·exact RI _
  split
  ·exact RI _
  split
  ·exact RI _
  simp only;split
  ·exact RI _
  have h1:=mT (x:=(bA (w.s w.leader.toNat).tree (cD (w.s w.leader.toNat).peer).1 (kC w d)).1) (lead:=w.leader) (lost:=d.lost) (slow:=d.slow) [0,1,2] w [];have h2:=kx (x:=(bA (w.s w.leader.toNat).tree (cD (w.s w.leader.toNat).peer).1 (kC w d)).1) (lead:=w.leader) (lost:=d.lost) (slow:=d.slow) [0,1,2] (hv:=[]) hw;generalize bW _ _ _ _ _ _ _=R at h1 h2 ⊢;split
  ·exact RI _
  split
  ·exact RI _
  unfold lN;simp only;have h3:=rH R.2.1 (ns:=[]) h2;generalize bn _ _ _=Q at h3 ⊢;split
  ·exact RI _
  split
  ·exact RI _
  ·simp only[RD,R1] at h1 h3 ⊢
   omega
 split
 ·unfold ib
  split
  ·exact RI _
  simp only;split
  ·exact RI _
  split
  ·exact RI _
  split
  ·split
   ·exact RI _
   ·exact RI _
  ·exact RI _
 split
 ·unfold dj
  split
  ·exact RI _
  simp only;have h3:=ou (l:=((bS w).getD (bQ (bS w)).1.toNat default).log) (ep:=(bQ (bS w)).2.1) [0,1,2] (w:=w.resign) (ns:=[]) hw;generalize bH _ _ _ _ _=R at h3 ⊢;split
  ·exact RI _
  ·simp only[RD,R1] at h3 ⊢
   omega
 split
 ·split
  ·exact RI _
  split
  ·unfold upW
   split
   ·exact RI _
   split
   ·exact RI _
   ·exact RI _
  ·unfold iu
   split
   ·exact RI _
   split
   ·exact RI _
   ·exact RI _
 ·exact RI _
theorem Fs{w:AWorld}{n:Nat}(h:dH w n)(d:XO):(doW w d).2.notes.length≤1200:=by
 have hw:=h.2.1;unfold doW;split
 ·exact RI _
 ·exact Hi (w:={ w with deeds:=w.deeds+1 }) hw d
theorem qBo0:Pls [XE [1,2,3,4] (.fork 0 (XE [5,6,7,8] .done) 5 (XE [0,6,7,8] .done))]:=pls _
theorem qBo1:Pls [XE [1,2,4] (.fork 0 (XE [3,5,6,7,8,9] .done) 3 (XE [5] (.fork 0 (XE [6,7,8,9] .done) 6 (XE [0,7,8,9] .done))))]:=pls _
theorem ui:okS epN:=by unfold okS;decide
theorem G7(d:XQ)(h:d.files.length*48≤140737488351232)(hw:∀ f,f∈d.files→f.wf):ab Tryz.prog [] 38 [d.av] (ret (I (gz d.files))):=by
 have hr:=LA d epN h hw;have hz:=Jh (readD d.files epN).1 (by have:=kL (l:=d.files) epN;unfold okS;omega);unfold gz;generalize readD d.files epN=q at hr hz ⊢;obtain⟨s,e⟩:=q;simp only at hr hz ⊢;generalize dv s=r at hz ⊢;obtain⟨z,f⟩:=r;simp only at hz ⊢;simp only[epN] at hr;have he:=sU z;generalize epZ z=ep at he ⊢;refine zJ Tryz.func38 Tryz.ntmps38 Tryz.results38 ?_;simp only[go_sem]
 (refine zW qw (z3 hr hz he) X5 (z3 ?_ ?_ ?_)<;>(repeat with_reducible intro hc))
 all_goals first
  |(rw[Rx (by assumption)];exact zEf trivial;done)
  |(rw[Rw (by omega),Rx (by assumption)];exact zEf trivial;done)
  |(rw[Rw (by omega),Rw (by omega)];exact zEf trivial;done)
theorem FB{s:List UInt8}(h:(dv s).2≠0):(dv s).1=0:=by
 unfold dv at h ⊢;split at h
 ·rename_i hc
  rw[Rx hc];unfold mkZ at h ⊢;split at h
  ·rename_i hb;rw[Rx hb]
  ·exact absurd rfl h
 ·rename_i hc;rw[Rw hc]
theorem Gj(s:List UInt8):okI (dv s).1:=by
 unfold dv;split
 ·unfold mkZ
  split
  ·exact⟨by decide,by decide⟩
  ·rename_i hb;unfold lZ at hb;simp only;constructor<;>omega
 ·exact⟨by decide,by decide⟩
theorem v6(d:XQ)(h:d.files.length*48≤140737488351232)(hw:∀ f,f∈d.files→f.wf):ab Tryz.prog [] 89 [d.av] (ret (I (gz d.files))):=by
 have hr:=vH d epN h hw;have hz:=BC (readD d.files epN).1 (by have:=kL (l:=d.files) epN;unfold okS;omega);have hze:=@FB (readD d.files epN).1;have he:=ref_epoch_c (dv (readD d.files epN).1).1 (Gj _);unfold gz;generalize readD d.files epN=q at hr hz hze he ⊢;obtain⟨s,e⟩:=q;simp only at hr hz hze he ⊢;generalize dv s=r at hz hze he ⊢;obtain⟨z,f⟩:=r;simp only at hz hze he ⊢;simp only[epN] at hr
 have hq:(if f≠0 then 0 else epZ z)=epZ z:=by
  split
  ·rw[hze (by assumption)];rfl
  ·rfl
 rw[hq];generalize epZ z=ep at he ⊢;refine zJ Tryz.func89 Tryz.ntmps89 Tryz.results89 ?_;simp only[go_sem]
 (refine zW qw (z3 hr hz he) X5 (z2 ?_ ?_)<;>(repeat with_reducible intro hc))
 all_goals first
  |(rw[Rx (by assumption)];exact zEf trivial;done)
  |(rw[Rw (by omega)];exact zEf trivial;done)
theorem C6{l:List AFile}{key:List UInt8}(h:∀ f,f∈l→f.wf):∀ f,f∈(bo l key).1.files→f.wf:=by
 intro f hf;unfold bo at hf;split at hf
 ·cases hf
 ·split at hf
  ·exact h f (Tx hf)
  ·cases hf
def jR(l:List AFile):List AFile:=if(bo l epN).2=0 then(bo l epN).1.files else l
theorem yF{l:List AFile}(h:l.length*48≤140737488351232)(hw:∀ f,f∈l→f.wf):(jR l).length*48≤140737488351232∧∀ f,f∈jR l→f.wf:=by
 unfold jR;split
 ·exact⟨GP h,C6 hw⟩
 ·exact⟨h,hw⟩
theorem yJ(l:List AFile)(ep:Int)(h:(mkZ ep 0).2=0):ba l ep=if(aD (jR l) epN (fq (mkZ ep 0).1)).2≠0 then(default,(aD (jR l) epN (fq (mkZ ep 0).1)).2) else bj (aD (jR l) epN (fq (mkZ ep 0).1)).1.files epN lL:=by unfold ba;rw[Rw (fun hh=>hh h)];rfl
theorem BN{ep:Int}(h:(mkZ ep 0).2=0):bd (mkZ ep 0).1:=by
 unfold mkZ at h ⊢;split at h
 ·cases h
 ·rename_i hb
  rw[Rw hb];unfold lZ at hb;unfold bd;simp only;omega
theorem z6{z:Int}(h:bd z):okS (fq z):=by have:=xP h;unfold okS;omega
theorem DR(d:XQ)(ep:Int)(h:d.files.length*48≤140737488351232)(hw:∀ f,f∈d.files→f.wf):ab Tryz.prog [] 184 [d.av,I ep] (ret (.tup [(ba d.files ep).1.av,I (ba d.files ep).2])):=by
 have hmk:=DJ ep 0
 by_cases hm:(mkZ ep 0).2=0
 case neg=>
  have e:ba d.files ep=(default,(mkZ ep 0).2):=by unfold ba;rw[Rx hm]
  rw[e];generalize mkZ ep 0=m at hm hmk ⊢;refine zJ Tryz.func184 Tryz.ntmps184 Tryz.results184 ?_;simp only[go_sem]
  (refine zW qw (z1 hmk) @two.eq_1 (z1 ?_)<;>(repeat with_reducible intro hc))
  all_goals first|(exfalso;exact absurd (by assumption) hm)|(exfalso;exact absurd hm (by assumption))|skip
  all_goals exact zEe dfl
 rw[yJ _ _ hm];have hg:=BN hm;have ht:=I1 (mkZ ep 0).1;rw[rJ,Rx hg] at ht;have hrm:=IA d epN h hw;obtain⟨l1,l2⟩:=yF h hw;have hwr:=yu ⟨jR d.files⟩ epN (fq (mkZ ep 0).1) (z6 hg) ui l1 l2;have hsy:=KS (aD (jR d.files) epN (fq (mkZ ep 0).1)).1 epN ia (cL ui l2);have hls:jR d.files=if(bo d.files epN).2=0 then(bo d.files epN).1.files else d.files:=rfl
 generalize mkZ ep 0=m at hm hmk ht hwr hsy ⊢;obtain⟨z,e0⟩:=m;simp only at hm hmk ht hwr hsy ⊢;subst hm;generalize fq z=s at ht hwr hsy ⊢;generalize jR d.files=L at hwr hsy hls ⊢;generalize aD L epN s=Q at hwr hsy ⊢;obtain⟨wd,we⟩:=Q;simp only at hwr hsy ⊢;generalize bj wd.files epN lL=R at hsy ⊢;obtain⟨sd,se⟩:=R;simp only at hsy ⊢;generalize bo d.files epN=M at hrm hls;obtain⟨rd,re⟩:=M;simp only at hrm hls;simp only[epN] at hrm hwr hsy
 by_cases hre:re=0
 ·subst hre
  rw[Rx rfl] at hls;subst hls;refine zJ Tryz.func184 Tryz.ntmps184 Tryz.results184 ?_;simp only[go_sem]
  (repeat' first
|(with_reducible refine AR.f ?_)
|(with_reducible refine AWP.cond rfl ?_ ?_<;>intro hc<;>(try simp only[hcs,RN,RY,RZ] at hc))
|((first|((first|(with_reducible first|refine zR ?_));intro K hK)|((first|refine zA hmk ?_ ?_ ?_ ?_ ?_|refine zA ht ?_ ?_ ?_ ?_ ?_|refine zA hrm ?_ ?_ ?_ ?_ ?_|refine zA hwr ?_ ?_ ?_ ?_ ?_|refine zA hsy ?_ ?_ ?_ ?_ ?_);(focus exact rfl);(focus exact rfl);iterate 2 (focus((try simp(disch:=omega) only[go_sem,aa,two])<;>(try omega)<;>fail)))|((first|refine zN hrm rfl ?_ ?_|refine zN hwr rfl ?_ ?_|refine zN hsy rfl ?_ ?_|refine zX hmk rfl ?_ ?_|refine zX ht rfl ?_ ?_|refine zX hrm rfl ?_ ?_|refine zY hrm ?_ ?_|refine zX hwr rfl ?_ ?_|refine zY hwr ?_ ?_|refine zX hsy rfl ?_ ?_|refine zY hsy ?_ ?_);(focus((try simp(disch:=omega) only[go_sem,aa,two])<;>(try omega)<;>fail))))<;>(try simp(disch:=omega) only[go_sem,aa,two])<;>(repeat' with_reducible refine Sg ?_ ?_)<;>(try(with_reducible refine hK _ ?_;clear hK K)))
|omega)
  all_goals first
   |(rw[Rx (by assumption)];exact zEf dfl;done)
   |(rw[Rw (by omega)];exact zEf trivial;done)
 ·rw[Rw hre] at hls
  subst hls;refine zJ Tryz.func184 Tryz.ntmps184 Tryz.results184 ?_;simp only[go_sem]
  (repeat' first
|(with_reducible refine AR.f ?_)
|(with_reducible refine AWP.cond rfl ?_ ?_<;>intro hc<;>(try simp only[hcs,RN,RY,RZ] at hc))
|((first|((first|(with_reducible first|refine zR ?_));intro K hK)|((first|refine zA hmk ?_ ?_ ?_ ?_ ?_|refine zA ht ?_ ?_ ?_ ?_ ?_|refine zA hrm ?_ ?_ ?_ ?_ ?_|refine zA hwr ?_ ?_ ?_ ?_ ?_|refine zA hsy ?_ ?_ ?_ ?_ ?_);(focus exact rfl);(focus exact rfl);iterate 2 (focus((try simp(disch:=omega) only[go_sem,aa,two])<;>(try omega)<;>fail)))|((first|refine zN hrm rfl ?_ ?_|refine zN hwr rfl ?_ ?_|refine zN hsy rfl ?_ ?_|refine zX hmk rfl ?_ ?_|refine zX ht rfl ?_ ?_|refine zX hrm rfl ?_ ?_|refine zY hrm ?_ ?_|refine zX hwr rfl ?_ ?_|refine zY hwr ?_ ?_|refine zX hsy rfl ?_ ?_|refine zY hsy ?_ ?_);(focus((try simp(disch:=omega) only[go_sem,aa,two])<;>(try omega)<;>fail))))<;>(try simp(disch:=omega) only[go_sem,aa,two])<;>(repeat' with_reducible refine Sg ?_ ?_)<;>(try(with_reducible refine hK _ ?_;clear hK K)))
|omega)
  all_goals first|(exfalso;exact absurd (by assumption) hre)|skip
  all_goals first
   |(rw[Rx (by assumption)];exact zEf dfl;done)
   |(rw[Rw (by omega)];exact zEf trivial;done)
theorem uF(d:XQ)(ep:Int)(h:d.files.length*48≤140737488351232)(hw:∀ f,f∈d.files→f.wf):ab Tryz.prog [] 155 [d.av,I ep] (ret (.tup [(ba d.files ep).1.av,I (ba d.files ep).2])):=by
 have hmk:=k9 ep 0
 by_cases hm:(mkZ ep 0).2=0
 case neg=>
  have e:ba d.files ep=(default,(mkZ ep 0).2):=by unfold ba;rw[Rx hm]
  rw[e];generalize mkZ ep 0=m at hm hmk ⊢;refine zJ Tryz.func155 Tryz.ntmps155 Tryz.results155 ?_;simp only[go_sem]
  (refine zW qw (z1 hmk) @two.eq_1 (z1 ?_)<;>(repeat with_reducible intro hc))
  all_goals first|(exfalso;exact absurd (by assumption) hm)|(exfalso;exact absurd hm (by assumption))|skip
  all_goals exact zEe dfl
 rw[yJ _ _ hm];have hg:=BN hm;have ht:=yG (mkZ ep 0).1 (by unfold bd at hg;unfold okI;omega);rw[rJ,Rx hg] at ht;have hrm:=yf d epN h hw;obtain⟨l1,l2⟩:=yF h hw;have hwr:=m5 ⟨jR d.files⟩ epN (fq (mkZ ep 0).1) (z6 hg) ui l1 l2;have hsy:=uV (aD (jR d.files) epN (fq (mkZ ep 0).1)).1 epN ia (cL ui l2);have hls:jR d.files=if(bo d.files epN).2=0 then(bo d.files epN).1.files else d.files:=rfl
 generalize mkZ ep 0=m at hm hmk ht hwr hsy ⊢;obtain⟨z,e0⟩:=m;simp only at hm hmk ht hwr hsy ⊢;subst hm;generalize fq z=s at ht hwr hsy ⊢;generalize jR d.files=L at hwr hsy hls ⊢;generalize aD L epN s=Q at hwr hsy ⊢;obtain⟨wd,we⟩:=Q;simp only at hwr hsy ⊢;generalize bj wd.files epN lL=R at hsy ⊢;obtain⟨sd,se⟩:=R;simp only at hsy ⊢;generalize bo d.files epN=M at hrm hls;obtain⟨rd,re⟩:=M;simp only at hrm hls;simp only[epN] at hrm hwr hsy
 by_cases hre:re=0
 ·subst hre
  rw[Rx rfl] at hls;subst hls;refine zJ Tryz.func155 Tryz.ntmps155 Tryz.results155 ?_;simp only[go_sem]
  (repeat' first
|(with_reducible refine AR.f ?_)
|(with_reducible refine AWP.cond rfl ?_ ?_<;>intro hc<;>(try simp only[hcs,RN,RY,RZ] at hc))
|((first|((first|(with_reducible first|refine zR ?_));intro K hK)|((first|refine zA hmk ?_ ?_ ?_ ?_ ?_|refine zA ht ?_ ?_ ?_ ?_ ?_|refine zA hrm ?_ ?_ ?_ ?_ ?_|refine zA hwr ?_ ?_ ?_ ?_ ?_|refine zA hsy ?_ ?_ ?_ ?_ ?_);(focus exact rfl);(focus exact rfl);iterate 2 (focus((try simp(disch:=omega) only[go_sem,aa,two])<;>(try omega)<;>fail)))|((first|refine zN hrm rfl ?_ ?_|refine zN hwr rfl ?_ ?_|refine zN hsy rfl ?_ ?_|refine zX hmk rfl ?_ ?_|refine zX ht rfl ?_ ?_|refine zX hrm rfl ?_ ?_|refine zY hrm ?_ ?_|refine zX hwr rfl ?_ ?_|refine zY hwr ?_ ?_|refine zX hsy rfl ?_ ?_|refine zY hsy ?_ ?_);(focus((try simp(disch:=omega) only[go_sem,aa,two])<;>(try omega)<;>fail))))<;>(try simp(disch:=omega) only[go_sem,aa,two])<;>(repeat' with_reducible refine Sg ?_ ?_)<;>(try(with_reducible refine hK _ ?_;clear hK K)))
|omega)
  all_goals first
   |(rw[Rx (by assumption)];exact zEf dfl;done)
   |(rw[Rw (by omega)];exact zEf trivial;done)
 ·rw[Rw hre] at hls
  subst hls;refine zJ Tryz.func155 Tryz.ntmps155 Tryz.results155 ?_;simp only[go_sem]
  (repeat' first
|(with_reducible refine AR.f ?_)
|(with_reducible refine AWP.cond rfl ?_ ?_<;>intro hc<;>(try simp only[hcs,RN,RY,RZ] at hc))
|((first|((first|(with_reducible first|refine zR ?_));intro K hK)|((first|refine zA hmk ?_ ?_ ?_ ?_ ?_|refine zA ht ?_ ?_ ?_ ?_ ?_|refine zA hrm ?_ ?_ ?_ ?_ ?_|refine zA hwr ?_ ?_ ?_ ?_ ?_|refine zA hsy ?_ ?_ ?_ ?_ ?_);(focus exact rfl);(focus exact rfl);iterate 2 (focus((try simp(disch:=omega) only[go_sem,aa,two])<;>(try omega)<;>fail)))|((first|refine zN hrm rfl ?_ ?_|refine zN hwr rfl ?_ ?_|refine zN hsy rfl ?_ ?_|refine zX hmk rfl ?_ ?_|refine zX ht rfl ?_ ?_|refine zX hrm rfl ?_ ?_|refine zY hrm ?_ ?_|refine zX hwr rfl ?_ ?_|refine zY hwr ?_ ?_|refine zX hsy rfl ?_ ?_|refine zY hsy ?_ ?_);(focus((try simp(disch:=omega) only[go_sem,aa,two])<;>(try omega)<;>fail))))<;>(try simp(disch:=omega) only[go_sem,aa,two])<;>(repeat' with_reducible refine Sg ?_ ?_)<;>(try(with_reducible refine hK _ ?_;clear hK K)))
|omega)
  all_goals first|(exfalso;exact absurd (by assumption) hre)|skip
  all_goals first
   |(rw[Rx (by assumption)];exact zEf dfl;done)
   |(rw[Rw (by omega)];exact zEf trivial;done)
theorem IH(id:Int)(d:XQ)(h:d.files.length*48≤140737488351232)(hw:∀ f,f∈d.files→f.wf):ab Tryz.prog [] 53 [I id,d.av] (ret (.tup [(cK id d.files).1.av,I (cK id d.files).2])):=by
 have he:=G7 d h hw;have hr:=qp d h hw;unfold cK;generalize gz d.files=ep at he ⊢;generalize recoverD d.files=R at hr ⊢;obtain⟨l,d2,e⟩:=R;simp only at hr ⊢;refine zJ Tryz.func53 Tryz.ntmps53 Tryz.results53 ?_;simp only[go_sem]
 (refine zW qw (z4 qBo0 he hr Oi) X5 (z4 ?_ ?_ ?_ ?_)<;>(repeat with_reducible intro hc))
 all_goals first
  |(rw[Rx (by omega)];exact zEf dfl;done)
  |(rw[Rw (by omega),Rx (by omega)];exact zEf dfl;done)
  |(rw[Rw (by omega),Rw (by omega)];exact zEf @t00.eq_1;done)
theorem vA(id:Int)(d:XQ)(h:d.files.length*48≤140737488351232)(hw:∀ f,f∈d.files→f.wf):ab Tryz.prog [] 46 [I id,d.av] (ret (.tup [(cK id d.files).1.av,I (cK id d.files).2])):=by
 have he:=v6 d h hw;have hr:=jZ d h hw;unfold cK;generalize gz d.files=ep at he ⊢;generalize recoverD d.files=R at hr ⊢;obtain⟨l,d2,e⟩:=R;simp only at hr ⊢;refine zJ Tryz.func46 Tryz.ntmps46 Tryz.results46 ?_;simp only[go_sem]
 (refine zW qw (z4 qBo1 he hr wn) X5 (zc ?_ (z4 ?_ ?_ ?_ ?_))<;>(repeat with_reducible intro hc))
 all_goals first
  |(rw[Rx (by omega)];exact zEf dfl;done)
  |(rw[Rw (by omega),Rx (by omega)];exact zEf dfl;done)
  |(rw[Rw (by omega),Rw (by omega)];exact zEf @t00.eq_1;done)
theorem jV(l:List AFile)(ep:Int):(ba l ep).1.files.length*48≤140737488351232:=by
 by_cases hm:(mkZ ep 0).2=0
 ·rw[yJ _ _ hm]
  split
  ·exact(by decide:([]:List AFile).length*48≤140737488351232)
  ·exact xu ia
 ·have e:ba l ep=(default,(mkZ ep 0).2):=by unfold ba;rw[Rx hm]
  rw[e];exact(by decide:([]:List AFile).length*48≤140737488351232)
theorem PO:Pls [XE [0,1,2,3,4,5,6,7,8,9,10,11,12,13,14] .done]:=pls _
theorem oK:∀(a b:List ATxn) (k:Nat),(∀ j,j<k→(a.getD j default).zxid=(b.getD j default).zxid)→k≤a.length→k≤b.length→(k<a.length→k<b.length→(a.getD k default).zxid≠(b.getD k default).zxid)→bp a b=k
 |[],b,k,_,ha,_,_=>by simp at ha;subst ha;unfold bp;rfl
 |x::a,[],k,_,_,hb,_=>by simp at hb;subst hb;unfold bp;rfl
 | x::a,y::b,0,_,_,_,hs=>by
   have h0:=hs (by simp) (by simp);simp only[WE] at h0;unfold bp;rw[Rw h0]
 | x::a,y::b,k+1,h,ha,hb,hs=>by
   have h0:=h 0 (by omega);simp only[WE] at h0;unfold bp;rw[Rx h0];rw[oK a b k (fun j hj=>by simpa using h (j+1) (by omega)) (by simpa using ha) (by simpa using hb) (fun h1 h2=>by simpa using hs (by simpa using h1) (by simpa using h2))]
theorem AX{l:List AFile}{key:List UInt8}(hw:∀ f,f∈l→f.wf):∀ f,f∈(bj l key lL).1.files→f.wf:=by
 intro f hf
 by_cases hg:bE l=true
 ·by_cases hm:key∈l.map AFile.name
  ·rw[gc hg hm rfl] at hf
   have hk:=((iO.1 hg).2 _ (dA hg hm)).1.2;rcases S1 hf with h|h
   ·exact hw f h
   ·subst h
    obtain⟨g1,_,_,_⟩:=eO hw (place (l.map AFile.name) key);exact⟨g1,by show okS (_++_);unfold okS;rw[Ry];omega,by show okS [];unfold okS;decide⟩
  ·rw[ie hg hm] at hf;cases hf
 ·rw[iX hg] at hf;cases hf
theorem tn{l:List AFile}{z:Int}(hw:∀ f,f∈l→f.wf):∀ f,f∈(keepD l z).1.files→f.wf:=by
 intro f hf
 by_cases h:(recoverD l).2.2=0
 ·have o:=jm h
  rw[pk h] at hf;rcases S1 hf with h1|h1
  ·exact o.wf hw f h1
  ·subst h1
   have hl:(encs (keepL (recoverD l).1 z)).length≤1048576:=RW (mG _ _) o.len;exact⟨gy,by show okS (encs (keepL (recoverD l).1 z));unfold okS;omega,by show okS [];unfold okS;decide⟩
 ·rw[yt h] at hf;cases hf
theorem lA{l:List AFile}{ep:Int}(h:l.length*48≤140737488351232)(hw:∀ f,f∈l→f.wf):∀ f,f∈(ba l ep).1.files→f.wf:=by
 by_cases hm:(mkZ ep 0).2=0
 ·rw[yJ _ _ hm]
  split
  ·intro f hf;cases hf
  ·exact AX (cL ui (yF h hw).2)
 ·have e:ba l ep=(default,(mkZ ep 0).2):=by unfold ba;rw[Rx hm]
  rw[e];intro f hf;cases hf
theorem Da{l:List AFile}{t:ATxn}{safe:Bool}(hw:∀ f,f∈l→f.wf):∀ f,f∈(cI l t safe).1.files→f.wf:=by
 unfold cI;split
 ·intro f hf;cases hf
 ·split
  ·exact cL gy hw
  ·exact AX (cL gy hw)
theorem jP:(default:XH).wf:=
 ⟨X5,⟨by decide,fun _ h=>by cases h⟩,⟨⟨by decide,by decide⟩,⟨by decide,by decide⟩,⟨by decide,fun _ h=>by cases h⟩,⟨by decide,by decide⟩⟩,⟨⟨by decide,by decide⟩,⟨by decide,fun _ h=>by cases h⟩,⟨by decide,fun _ h=>by cases h⟩⟩,⟨by decide,fun _ h=>by cases h⟩⟩
theorem zZ{s:XH}{x:ATxn}{safe:Bool}(hw:s.wf)(hx:x.wf)(hl:s.peer.log.length≤1048576):(bg s x safe).1.wf:=by
 obtain⟨_,h1,h2,h3,h4⟩:=hw;unfold bg;split
 ·exact jP
 split
 ·refine⟨X5,⟨Gi,Da h1.2⟩,⟨h2.1,h2.2.1,⟨?_,fun y hy=>?_⟩,h2.2.2.2⟩,h3,h4⟩
  ·show(s.peer.log++[x]).length*72≤_;rw[Ry,Sj];omega
  ·rcases Sh.1 hy with hy|hy
   ·exact h2.2.2.1.2 y hy
   ·rw[SM.1 hy];exact hx
 ·exact jP
theorem BT{s:XH}{x:ATxn}{safe:Bool}:(bg s x safe).1.peer.log.length≤s.peer.log.length+1:=by
 unfold bg;split
 ·exact RI _
 split
 ·show(s.peer.log++[x]).length≤_;rw[Ry,Sj];exact RE _
 ·exact RI _
theorem uW(l:List ATxn)(k:Nat)(h:k<l.length):l.drop k=l.getD k default::l.drop (k+1):=by rw[SU h,Ru,Rv h];rfl
structure GS (s:XH):Prop where
 w:s.wf
 t:okT s.tree
 p:∀ x,x∈s.peer.log→x.path.length≤1048576
theorem eW:GS default:=⟨jP,⟨jP.2.2.2.1,fun _ h=>by cases h⟩,fun _ h=>by cases h⟩
theorem EW{s:XH}{x:ATxn}{safe:Bool}(h:GS s)(hx:x.wf)(hp:x.path.length≤1048576)(hl:s.peer.log.length≤1048576):GS (bg s x safe).1:=by
 refine⟨zZ h.w hx hl,?_,?_⟩
 ·unfold bg
  split
  ·exact eW.t
  split
  ·exact h.t
  ·exact eW.t
 ·unfold bg
  split
  ·exact eW.p
  split
  ·intro y hy
   rcases Sh.1 hy with hy|hy
   ·exact h.p y hy
   ·rw[SM.1 hy];exact hp
  ·exact eW.p
theorem AN:∀(r:List ATxn) {s:XH},GS s→(∀ x,x∈r→x.wf∧x.path.length≤1048576)→s.peer.log.length+r.length≤1048576→GS (eV s r).1
 |[],s,h,_,_=>h
 | x :: r,s,h,hr,hl=>by
   rw[RD] at hl;rw[eV];split
   ·have:=BT (s:=s) (x:=x) (safe:=true)
    obtain⟨a,b⟩:=hr x (St ..);exact AN r (EW h a b (by omega)) (fun y hy=>hr y (R6 _ hy)) (by omega)
   ·exact eW
def O6(s:XH)(l:List ATxn)(ep:Int)(k:Nat):XH×Int:=
 if(k:Int)<s.peer.done then(default,13) else
 if(keepD s.disk.files (d7 l k)).2≠0 then(default,(keepD s.disk.files (d7 l k)).2) else
 if(ba (keepD s.disk.files (d7 l k)).1.files ep).2≠0 then(default,(ba (keepD s.disk.files (d7 l k)).1.files ep).2) else
 eV ⟨s.up,(ba (keepD s.disk.files (d7 l k)).1.files ep).1,⟨s.peer.id,ep,s.peer.log.take k,s.peer.done⟩,s.tree,s.watches⟩ (l.drop k)
theorem Ex(s:XH)(l:List ATxn)(ep:Int):aG s l ep=O6 s l ep (bp l s.peer.log):=rfl
theorem Fv{x:ATxn}{r:List ATxn}{s:XH}(h:(bg s x true).2=0):eV s (x::r)=eV (bg s x true).1 r:=by rw[eV,Rx h]
theorem FG{x:ATxn}{r:List ATxn}{s:XH}(h:¬ (bg s x true).2=0):eV s (x::r)=(default,(bg s x true).2):=by rw[eV,Rw h]
structure XZ (X:List ATxn) (F:XH×Int) (v:Nat×XH):Prop where
 k:v.1≤X.length
 f:eV v.2 (X.drop v.1)=F
 w:v.2.wf
 l:v.2.peer.log.length+(X.length-v.1)≤1048576
theorem XZ.next{X:List ATxn}{F:XH×Int}{v:Nat×XH}(h:XZ X F v)(hk:v.1<X.length)(hX:∀ x,x∈X→x.wf)(h0:(bg v.2 (X.getD v.1 default) true).2=0):XZ X F (v.1+1,(bg v.2 (X.getD v.1 default) true).1):=by
 obtain⟨h1,h2,h3,h4⟩:=h;have hx:=hX _ (bs X default hk);have hd:=uW X v.1 hk;rw[hd,Fv h0] at h2
 have:=BT (s:=v.2) (x:=X.getD v.1 default) (safe:=true);exact⟨hk,h2,zZ h3 hx (by omega),by simp only;omega⟩
theorem XZ.stop{X:List ATxn}{F:XH×Int}{v:Nat×XH}(h:XZ X F v)(hk:v.1<X.length)(h0:¬ (bg v.2 (X.getD v.1 default) true).2=0):F=(default,(bg v.2 (X.getD v.1 default) true).2):=by have h2:=h.f;rw[uW X v.1 hk,FG h0] at h2;exact h2.symm
theorem XZ.end{X:List ATxn}{F:XH×Int}{v:Nat×XH}(h:XZ X F v)(hk:¬ v.1<X.length):F=(v.2,0):=by have h2:=h.f;rw[Wi (by have:=h.k;omega)] at h2;exact h2.symm
theorem yU{s:XH}{d:XQ}{ep:Int}{k:Nat}(hw:s.wf)(hd:d.wf)(he:okI ep):XH.wf ⟨s.up,d,⟨s.peer.id,ep,s.peer.log.take k,s.peer.done⟩,s.tree,s.watches⟩:=by
 obtain⟨_,h1,h2,h3,h4⟩:=hw
 have:=h2.2.2.1.1;exact⟨X5,hd,⟨h2.1,he,⟨by show(s.peer.log.take k).length*72≤_;rw[RH];omega,fun y hy=>h2.2.2.1.2 y (Sf hy)⟩,h2.2.2.2⟩,h3,h4⟩
theorem xb{s:XH}{l:List ATxn}{ep:Int}(h:GS s)(hl:∀ x,x∈l→x.wf∧x.path.length≤1048576)(hll:l.length≤1048576)(he:okI ep):GS (aG s l ep).1:=by
 have hk:=jk l s.peer.log;unfold aG;split
 ·exact eW
 split
 ·exact eW
 split
 ·exact eW
 ·obtain⟨_,h1,h2,h3,h4⟩:=h.w
  refine AN _ ⟨yU h.w ⟨jV _ _,lA zy (tn h1.2)⟩ he,h.t,fun x hx=>h.p x (Sf hx)⟩ (fun x hx=>hl x (Sw hx)) ?_;show(s.peer.log.take _).length+_≤_;rw[RH,RL];omega
theorem HJ(s:XH)(l:List ATxn)(ep:Int)(hw:s.wf)(hlw:∀ x,x∈l→x.wf)(hll:l.length≤1048576)(he:okI ep):ab Tryz.prog [] 114 [s.av,.d (.sl 7 (l.map ATxn.row)),I ep] (ret (.tup [(aG s l ep).1.av,I (aG s l ep).2])):=by
 have hw0:=hw;obtain⟨_,h1,h2,h3,h4⟩:=hw;have hl7:=h2.2.2.1.1;have hok0:=h2.2.2.2;rw[Ex];generalize hC:bp l s.peer.log=C;refine zJ Tryz.func114 Tryz.ntmps114 Tryz.results114 ?_;simp only[go_sem];refine zW qw zn X5 (z1 ?_);refine WQ (ι:=Nat) (fun k=>k≤l.length∧k≤s.peer.log.length∧∀ j,j<k→(l.getD j default).zxid=(s.peer.log.getD j default).zxid) (fun k=>l.length-k) [1,2,3,6] (fun k=>[(8,I k)]) (fun k=>[.cells [B s.up,.d (.sl 3 (s.disk.files.map AFile.row)),I s.peer.id,I s.peer.epoch,.d (.sl 7 (s.peer.log.map ATxn.row)),I s.peer.done,I s.tree.zxid,.d (.sl 9 (s.tree.nodes.map XG.row)),.d (.sl 1 (s.tree.sessions.map a8)),.d (.sl 3 (s.watches.map AWatch.row))],.cells [B false,.d (.sc (.slice none 0 0)),I 0,I 0,.d (.sc (.slice none 0 0)),I 0,I 0,.d (.sc (.slice none 0 0)),.d (.sc (.slice none 0 0)),.d (.sc (.slice none 0 0))]]) 0 ?_ ?_ ?_
 ·exact⟨RI _,RI _,fun j hj=>by omega⟩
 ·simp only[go_sem];exact zSm X5
 intro k ⟨hk1,hk2,hk3⟩;simp only[go_sem]
 by_cases hgo:k<l.length∧k<s.peer.log.length∧(l.getD k default).zxid=(s.peer.log.getD k default).zxid
 ·obtain⟨g1,g2,g3⟩:=hgo
  (refine zW qw zn (zx (fun z=>ATxn.rgetD l k z g1) (zx (fun z=>ATxn.rgetD s.peer.log k z g2) (zx @g3 (zx @g1 @g2)))) (z1 ?_)<;>(repeat with_reducible intro hc))
  all_goals try exact zk1
  refine⟨k+1,⟨by omega,by omega,fun j hj=>?_⟩,by omega,?_⟩
  ·by_cases e:j=k
   ·subst e;exact g3
   ·exact hk3 j (by omega)
  ·exact zSm X5
 have hkC:C=k:=by rw[←hC];exact oK _ _ _ hk3 hk1 hk2 fun a b c=>hgo ⟨a,b,c⟩
 subst hkC;have hkp:=O1 s.disk (d7 l C) h1.1 h1.2;have kwf:=zy (l:=s.disk.files) (z:=d7 l C);have kfw:=tn (z:=d7 l C) h1.2;have hrm:=DR (keepD s.disk.files (d7 l C)).1 ep kwf kfw;have rwf:=jV (keepD s.disk.files (d7 l C)).1.files ep;have rfw:=lA (ep:=ep) kwf kfw;have hbz:d7 l C=if 0<C then(l.getD (C-1) default).zxid else -1:=rfl
 have hXe:List.take (l.length-C) (List.drop C (l.map ATxn.row))=(l.drop C).map ATxn.row:=by rw[←UF];exact Rz (by simp)
 have hYe:List.take C (s.peer.log.map ATxn.row)=(s.peer.log.take C).map ATxn.row:=by rw[U0]
 have hYl:(s.peer.log.take C).length=C:=by rw[RH];omega
 have hXl:(l.drop C).length=l.length-C:=RL;have hXw:∀ x,x∈l.drop C→x.wf:=fun x hx=>hlw x (Sw hx)
 unfold O6
 by_cases hd:(C:Int)<s.peer.done
 ·rw[Rx hd]
  (refine zW qw zn X5 (z1 ?_)<;>(repeat with_reducible intro hc))
  all_goals try exact zk1
  all_goals exact zEe dfl
 rw[Rw hd];have hsw (d:XQ) (hd:d.wf):=yU (k:=C) hw0 hd he;generalize d7 l C=bz at hbz hkp hrm kwf kfw rwf rfw ⊢;generalize keepD s.disk.files bz=K at hkp hrm kwf kfw rwf rfw ⊢;obtain⟨kd,ke⟩:=K;simp only at hkp hrm kwf kfw rwf rfw ⊢;generalize ba kd.files ep=R at hrm rwf rfw ⊢;obtain⟨rd,re⟩:=R;simp only at hrm rwf rfw ⊢;have hrw:rd.wf:=⟨rwf,rfw⟩;have hsw:=hsw rd hrw;generalize hX:l.drop C=X at hXe hXl hXw ⊢;generalize hY:s.peer.log.take C=Y at hYe hYl hsw ⊢;have hYt:List.take C (Y.map ATxn.row)=Y.map ATxn.row:=Rz (by simp;omega);have hmn:min C s.peer.log.length=C:=Sq hk2;generalize hF:(if ke≠0 then((default:XH),ke) else if re≠0 then(default,re) else eV ⟨s.up,rd,⟨s.peer.id,ep,Y,s.peer.done⟩,s.tree,s.watches⟩ X)=F
 by_cases h0:0<C
 ·rw [Rx h0] at hbz
  subst hbz
  (refine zW qw (z2 hkp hrm) (zx (fun z=>ATxn.rgetD l (C-1) z (by omega)) (zx @hXe (zx @hYe (zx @mq (zx @R3 @hmn))))) (z3 ?_ ?_ ?_)<;>(repeat with_reducible intro hc))
  ·rw[Rx hc] at hF
   subst hF;exact zEe dfl
  ·rw[Rw (by omega),Rx hc] at hF
   subst hF;exact zEe dfl
  ·rw[Rw (by omega),Rw (by omega)] at hF
   refine WR (Xw 0 4 rfl rfl rfl (by first|(simp;done)|(simp;omega)) (by decide) (fun j hj=>absurd hj (UE j))) ?_;simp only[go_sem];refine WQ (ι:=Nat×XH) (fun v=>XZ X F v) (fun v=>X.length-v.1) [3,6,92,93] (fun v=>[(94,I v.1)]) (fun v=>[.cells [B v.2.up,.d (.sl 3 (v.2.disk.files.map AFile.row)),I v.2.peer.id,I v.2.peer.epoch,.d (.sl 7 (v.2.peer.log.map ATxn.row)),I v.2.peer.done,I v.2.tree.zxid,.d (.sl 9 (v.2.tree.nodes.map XG.row)),.d (.sl 1 (v.2.tree.sessions.map a8)),.d (.sl 3 (v.2.watches.map AWatch.row))],.cells [B false,.d (.sc (.slice none 0 0)),I 0,I 0,.d (.sc (.slice none 0 0)),I 0,I 0,.d (.sc (.slice none 0 0)),.d (.sc (.slice none 0 0)),.d (.sc (.slice none 0 0))]]) (0,⟨s.up,rd,⟨s.peer.id,ep,Y,s.peer.done⟩,s.tree,s.watches⟩) ?_ ?_ ?_
   ·exact⟨RI _,hF,hsw,by simp only;omega⟩
   ·simp only[go_sem];exact zFr [0,1] (zx @List.drop_zero.{0} @hYt)
   intro v hv;simp only[go_sem];have hvk:=hv.k
   by_cases hk4:v.1<X.length
   ·have hxw:=hXw _ (bs X default hk4)
    have hvl:=hv.l;have ht:=D3 v.2 (X.getD v.1 default) true hv.w hxw (by omega);have hrow:∀ z,List.getD (X.map ATxn.row) v.1 z=(X.getD v.1 default).row:=fun z=>ATxn.rgetD X v.1 z hk4
    by_cases ht0:(bg v.2 (X.getD v.1 default) true).2=0
    ·have hnx:=hv.next hk4 hXw ht0
     generalize X.getD v.1 default=x at ht ht0 hnx hrow;generalize bg v.2 x true=q at ht ht0 hnx;obtain⟨q1,q2⟩:=q;simp only at ht ht0 hnx
     (refine zW qw (z1 ht) (zx @hrow @ATxn.row.eq_1) (z1 ?_)<;>(repeat with_reducible intro hc))
     all_goals try exact zk1
     refine⟨(v.1+1,q1),hnx,by simp only;omega,?_⟩;exact zFr [0,1] X5
    ·have hst:=hv.stop hk4 ht0
     generalize X.getD v.1 default=x at ht ht0 hst hrow;generalize bg v.2 x true=q at ht ht0 hst;obtain⟨q1,q2⟩:=q;simp only at ht ht0 hst;subst hst
     (refine zW qw (z1 ht) (zx @hrow @ATxn.row.eq_1) (z1 ?_)<;>(repeat with_reducible intro hc))
     all_goals try exact zk1
     exact zEe dfl
   ·have hst:=hv.end hk4
    subst hst
    (refine zW qw zn X5 (z1 ?_)<;>(repeat with_reducible intro hc))
    all_goals try exact zk1
    exact zEe X5
 ·rw [Rw h0] at hbz
  subst hbz
  (refine zW qw (z2 hkp hrm) (zx @hXe (zx @hYe (zx @R3 @hmn))) (z3 ?_ ?_ ?_)<;>(repeat with_reducible intro hc))
  ·rw[Rx hc] at hF
   subst hF;exact zEe dfl
  ·rw[Rw (by omega),Rx hc] at hF
   subst hF;exact zEe dfl
  ·rw[Rw (by omega),Rw (by omega)] at hF
   refine WR (Xw 0 4 rfl rfl rfl (by first|(simp;done)|(simp;omega)) (by decide) (fun j hj=>absurd hj (UE j))) ?_;simp only[go_sem];refine WQ (ι:=Nat×XH) (fun v=>XZ X F v) (fun v=>X.length-v.1) [3,6,92,93] (fun v=>[(94,I v.1)]) (fun v=>[.cells [B v.2.up,.d (.sl 3 (v.2.disk.files.map AFile.row)),I v.2.peer.id,I v.2.peer.epoch,.d (.sl 7 (v.2.peer.log.map ATxn.row)),I v.2.peer.done,I v.2.tree.zxid,.d (.sl 9 (v.2.tree.nodes.map XG.row)),.d (.sl 1 (v.2.tree.sessions.map a8)),.d (.sl 3 (v.2.watches.map AWatch.row))],.cells [B false,.d (.sc (.slice none 0 0)),I 0,I 0,.d (.sc (.slice none 0 0)),I 0,I 0,.d (.sc (.slice none 0 0)),.d (.sc (.slice none 0 0)),.d (.sc (.slice none 0 0))]]) (0,⟨s.up,rd,⟨s.peer.id,ep,Y,s.peer.done⟩,s.tree,s.watches⟩) ?_ ?_ ?_
   ·exact⟨RI _,hF,hsw,by simp only;omega⟩
   ·simp only[go_sem];exact zFr [0,1] (zx @List.drop_zero.{0} @hYt)
   intro v hv;simp only[go_sem];have hvk:=hv.k
   by_cases hk4:v.1<X.length
   ·have hxw:=hXw _ (bs X default hk4)
    have hvl:=hv.l;have ht:=D3 v.2 (X.getD v.1 default) true hv.w hxw (by omega);have hrow:∀ z,List.getD (X.map ATxn.row) v.1 z=(X.getD v.1 default).row:=fun z=>ATxn.rgetD X v.1 z hk4
    by_cases ht0:(bg v.2 (X.getD v.1 default) true).2=0
    ·have hnx:=hv.next hk4 hXw ht0
     generalize X.getD v.1 default=x at ht ht0 hnx hrow;generalize bg v.2 x true=q at ht ht0 hnx;obtain⟨q1,q2⟩:=q;simp only at ht ht0 hnx
     (refine zW qw (z1 ht) (zx @hrow @ATxn.row.eq_1) (z1 ?_)<;>(repeat with_reducible intro hc))
     all_goals try exact zk1
     refine⟨(v.1+1,q1),hnx,by simp only;omega,?_⟩;exact zFr [0,1] X5
    ·have hst:=hv.stop hk4 ht0
     generalize X.getD v.1 default=x at ht ht0 hst hrow;generalize bg v.2 x true=q at ht ht0 hst;obtain⟨q1,q2⟩:=q;simp only at ht ht0 hst;subst hst
     (refine zW qw (z1 ht) (zx @hrow @ATxn.row.eq_1) (z1 ?_)<;>(repeat with_reducible intro hc))
     all_goals try exact zk1
     exact zEe dfl
   ·have hst:=hv.end hk4
    subst hst
    (refine zW qw zn X5 (z1 ?_)<;>(repeat with_reducible intro hc))
    all_goals try exact zk1
    exact zEe X5
theorem y5(l m:List ATxn)(h1:l.length*72≤140737488351232)(h2:m.length*72≤140737488351232):ab Tryz.prog [] 153 [.d (.sl 7 (l.map ATxn.row)),.d (.sl 7 (m.map ATxn.row))] (ret (I (bp l m))):=by
 generalize hC:bp l m=C;refine zJ Tryz.func153 Tryz.ntmps153 Tryz.results153 ?_;simp only[go_sem];refine zW qw zn X5 (z1 ?_);refine WQ (ι:=Nat) (fun k=>k≤l.length∧k≤m.length∧∀ j,j<k→(l.getD j default).zxid=(m.getD j default).zxid) (fun k=>l.length-k) [0,1] (fun k=>[(5,I k)]) (fun k=>[]) 0 ?_ ?_ ?_
 ·exact⟨RI _,RI _,fun j hj=>by omega⟩
 ·simp only[go_sem];exact zSm X5
 intro k ⟨hk1,hk2,hk3⟩;simp only[go_sem]
 by_cases hgo:k<l.length∧k<m.length∧(l.getD k default).zxid=(m.getD k default).zxid
 ·obtain⟨g1,g2,g3⟩:=hgo
  (refine zW qw zn (zx (fun z=>ATxn.rgetD l k z g1) (zx (fun z=>ATxn.rgetD m k z g2) (zx @g3 (zx @g1 @g2)))) (z1 ?_)<;>(repeat with_reducible intro hc))
  all_goals try exact zk1
  refine⟨k+1,⟨by omega,by omega,fun j hj=>?_⟩,by omega,?_⟩
  ·by_cases e:j=k
   ·subst e;exact g3
   ·exact hk3 j (by omega)
  ·exact zSm X5
 have hkC:C=k:=by rw[←hC];exact oK _ _ _ hk3 hk1 hk2 fun a b c=>hgo ⟨a,b,c⟩
 subst hkC
 (refine zW qw zn X5 (z1 ?_)<;>(repeat with_reducible intro hc))
 all_goals try exact zk1
 exact zEe X5
theorem yB(s:XH)(l:List ATxn)(ep:Int)(hw:s.wf)(hlw:∀ x,x∈l→x.wf)(hlp:∀ x,x∈l→x.path.length≤1048576)(hll:l.length≤1048576)(he:okI ep):ab Tryz.prog [] 93 [s.av,.d (.sl 7 (l.map ATxn.row)),I ep] (ret (.tup [(aG s l ep).1.av,I (aG s l ep).2])):=by
 have hw0:=hw;have hcp:=qk s hw;obtain⟨_,h1,h2,h3,h4⟩:=hw;have hl7:=h2.2.2.1.1;have hok0:=h2.2.2.2;have hcm:=y5 l s.peer.log (by omega) hl7;obtain⟨hk1,hk2⟩:=jk l s.peer.log;rw[Ex];generalize bp l s.peer.log=C at hcm hk1 hk2 ⊢;have hkp:=Dr s.disk (d7 l C) h1.1 h1.2;have kwf:=zy (l:=s.disk.files) (z:=d7 l C);have kfw:=tn (z:=d7 l C) h1.2;have hrm:=uF (keepD s.disk.files (d7 l C)).1 ep kwf kfw;have rwf:=jV (keepD s.disk.files (d7 l C)).1.files ep;have rfw:=lA (ep:=ep) kwf kfw;have hbz:d7 l C=if 0<C then(l.getD (C-1) default).zxid else -1:=rfl
 have hXe:List.take (l.length-C) (List.drop C (l.map ATxn.row))=(l.drop C).map ATxn.row:=by rw[←UF];exact Rz (by simp)
 have hYe:List.take C (s.peer.log.map ATxn.row)=(s.peer.log.take C).map ATxn.row:=by rw[U0]
 have hYl:(s.peer.log.take C).length=C:=by rw[RH];omega
 have hXl:(l.drop C).length=l.length-C:=RL;have hXw:∀ x,x∈l.drop C→x.wf:=fun x hx=>hlw x (Sw hx)
 unfold O6
 by_cases hd:(C:Int)<s.peer.done
 ·rw[Rx hd]
  refine zJ Tryz.func93 Tryz.ntmps93 Tryz.results93 ?_;simp only[go_sem]
  (refine zW qw (z1 hcm) X5 (z1 ?_)<;>(repeat with_reducible intro hc))
  all_goals try exact zk1
  all_goals exact zEe dfl
 rw[Rw hd];have hsw (d:XQ) (hd:d.wf):=yU (k:=C) hw0 hd he;generalize d7 l C=bz at hbz hkp hrm kwf kfw rwf rfw ⊢;generalize keepD s.disk.files bz=K at hkp hrm kwf kfw rwf rfw ⊢;obtain⟨kd,ke⟩:=K;simp only at hkp hrm kwf kfw rwf rfw ⊢;generalize ba kd.files ep=R at hrm rwf rfw ⊢;obtain⟨rd,re⟩:=R;simp only at hrm rwf rfw ⊢;have hrw:rd.wf:=⟨rwf,rfw⟩;have hsw:=hsw rd hrw;generalize hX:l.drop C=X at hXe hXl hXw ⊢;generalize hY:s.peer.log.take C=Y at hYe hYl hsw ⊢;have hYt:List.take C (Y.map ATxn.row)=Y.map ATxn.row:=Rz (by simp;omega);have hmn:min C s.peer.log.length=C:=Sq hk2;have hXp:∀ x,x∈X→x.path.length≤1048576:=fun x hx=>hlp x (by rw[←hX] at hx;exact Sw hx)
 generalize hF:(if ke≠0 then((default:XH),ke) else if re≠0 then(default,re) else eV ⟨s.up,rd,⟨s.peer.id,ep,Y,s.peer.done⟩,s.tree,s.watches⟩ X)=F
 by_cases h0:0<C
 ·rw [Rx h0] at hbz
  subst hbz;refine zJ Tryz.func93 Tryz.ntmps93 Tryz.results93 ?_;simp only[go_sem]
  (refine zW qw (zc PO (z4 hcm hkp hrm hcp)) (zx (fun z=>ATxn.rgetD l (C-1) z (by omega)) (zx @hXe (zx @hYe (zx @mq (zx @R3 @hmn))))) (z3 ?_ ?_ ?_)<;>(repeat with_reducible intro hc))
  all_goals try exact zk1
  ·rw[Rx hc] at hF
   subst hF;exact zEe dfl
  ·rw[Rw (by omega),Rx hc] at hF
   subst hF;exact zEe dfl
  ·rw[Rw (by omega),Rw (by omega)] at hF
   refine WQ (ι:=Nat×XH) (fun v=>XZ X F v) (fun v=>X.length-v.1) [3,6,70,71] (fun v=>[(72,I v.1)]) (fun v=>[.cells [B v.2.up,.d (.sl 3 (v.2.disk.files.map AFile.row)),I v.2.peer.id,I v.2.peer.epoch,.d (.sl 7 (v.2.peer.log.map ATxn.row)),I v.2.peer.done,I v.2.tree.zxid,.d (.sl 9 (v.2.tree.nodes.map XG.row)),.d (.sl 1 (v.2.tree.sessions.map a8)),.d (.sl 3 (v.2.watches.map AWatch.row))],.cells [B false,.d (.sc (.slice none 0 0)),I 0,I 0,.d (.sc (.slice none 0 0)),I 0,I 0,.d (.sc (.slice none 0 0)),.d (.sc (.slice none 0 0)),.d (.sc (.slice none 0 0))]]) (0,⟨s.up,rd,⟨s.peer.id,ep,Y,s.peer.done⟩,s.tree,s.watches⟩) ?_ ?_ ?_
   ·exact⟨RI _,hF,hsw,by simp only;omega⟩
   ·simp only[go_sem];exact zFr [0,1] (zx @List.drop_zero.{0} (zx @hYt @hYe))
   intro v hv;simp only[go_sem];have hvk:=hv.k
   by_cases hk4:v.1<X.length
   ·have hxw:=hXw _ (bs X default hk4)
    have hvl:=hv.l;have ht:=oS v.2 (X.getD v.1 default) true hv.w hxw (hXp _ (bs X default hk4)) (by omega);have hrow:∀ z,List.getD (X.map ATxn.row) v.1 z=(X.getD v.1 default).row:=fun z=>ATxn.rgetD X v.1 z hk4
    by_cases ht0:(bg v.2 (X.getD v.1 default) true).2=0
    ·have hnx:=hv.next hk4 hXw ht0
     generalize X.getD v.1 default=x at ht ht0 hnx hrow;generalize bg v.2 x true=q at ht ht0 hnx;obtain⟨q1,q2⟩:=q;simp only at ht ht0 hnx
     (refine zW qw (z1 ht) (zx @hrow @ATxn.row.eq_1) (z1 ?_)<;>(repeat with_reducible intro hc))
     all_goals try exact zk1
     refine⟨(v.1+1,q1),hnx,by simp only;omega,?_⟩;exact zFr [0,1] X5
    ·have hst:=hv.stop hk4 ht0
     generalize X.getD v.1 default=x at ht ht0 hst hrow;generalize bg v.2 x true=q at ht ht0 hst;obtain⟨q1,q2⟩:=q;simp only at ht ht0 hst;subst hst
     (refine zW qw (z1 ht) (zx @hrow @ATxn.row.eq_1) (z1 ?_)<;>(repeat with_reducible intro hc))
     all_goals try exact zk1
     exact zEe dfl
   ·have hst:=hv.end hk4
    subst hst
    (refine zW qw zn X5 (z1 ?_)<;>(repeat with_reducible intro hc))
    all_goals try exact zk1
    exact zEe X5
 ·rw [Rw h0] at hbz
  subst hbz;refine zJ Tryz.func93 Tryz.ntmps93 Tryz.results93 ?_;simp only[go_sem]
  (refine zW qw (zc PO (z4 hcm hkp hrm hcp)) (zx @hXe (zx @hYe (zx @R3 @hmn))) (z3 ?_ ?_ ?_)<;>(repeat with_reducible intro hc))
  all_goals try exact zk1
  ·rw[Rx hc] at hF
   subst hF;exact zEe dfl
  ·rw[Rw (by omega),Rx hc] at hF
   subst hF;exact zEe dfl
  ·rw[Rw (by omega),Rw (by omega)] at hF
   refine WQ (ι:=Nat×XH) (fun v=>XZ X F v) (fun v=>X.length-v.1) [3,6,70,71] (fun v=>[(72,I v.1)]) (fun v=>[.cells [B v.2.up,.d (.sl 3 (v.2.disk.files.map AFile.row)),I v.2.peer.id,I v.2.peer.epoch,.d (.sl 7 (v.2.peer.log.map ATxn.row)),I v.2.peer.done,I v.2.tree.zxid,.d (.sl 9 (v.2.tree.nodes.map XG.row)),.d (.sl 1 (v.2.tree.sessions.map a8)),.d (.sl 3 (v.2.watches.map AWatch.row))],.cells [B false,.d (.sc (.slice none 0 0)),I 0,I 0,.d (.sc (.slice none 0 0)),I 0,I 0,.d (.sc (.slice none 0 0)),.d (.sc (.slice none 0 0)),.d (.sc (.slice none 0 0))]]) (0,⟨s.up,rd,⟨s.peer.id,ep,Y,s.peer.done⟩,s.tree,s.watches⟩) ?_ ?_ ?_
   ·exact⟨RI _,hF,hsw,by simp only;omega⟩
   ·simp only[go_sem];exact zFr [0,1] (zx @List.drop_zero.{0} (zx @hYt @hYe))
   intro v hv;simp only[go_sem];have hvk:=hv.k
   by_cases hk4:v.1<X.length
   ·have hxw:=hXw _ (bs X default hk4)
    have hvl:=hv.l;have ht:=oS v.2 (X.getD v.1 default) true hv.w hxw (hXp _ (bs X default hk4)) (by omega);have hrow:∀ z,List.getD (X.map ATxn.row) v.1 z=(X.getD v.1 default).row:=fun z=>ATxn.rgetD X v.1 z hk4
    by_cases ht0:(bg v.2 (X.getD v.1 default) true).2=0
    ·have hnx:=hv.next hk4 hXw ht0
     generalize X.getD v.1 default=x at ht ht0 hnx hrow;generalize bg v.2 x true=q at ht ht0 hnx;obtain⟨q1,q2⟩:=q;simp only at ht ht0 hnx
     (refine zW qw (z1 ht) (zx @hrow @ATxn.row.eq_1) (z1 ?_)<;>(repeat with_reducible intro hc))
     all_goals try exact zk1
     refine⟨(v.1+1,q1),hnx,by simp only;omega,?_⟩;exact zFr [0,1] X5
    ·have hst:=hv.stop hk4 ht0
     generalize X.getD v.1 default=x at ht ht0 hst hrow;generalize bg v.2 x true=q at ht ht0 hst;obtain⟨q1,q2⟩:=q;simp only at ht ht0 hst;subst hst
     (refine zW qw (z1 ht) (zx @hrow @ATxn.row.eq_1) (z1 ?_)<;>(repeat with_reducible intro hc))
     all_goals try exact zk1
     exact zEe dfl
   ·have hst:=hv.end hk4
    subst hst
    (refine zW qw zn X5 (z1 ?_)<;>(repeat with_reducible intro hc))
    all_goals try exact zk1
    exact zEe X5
structure CW where
 s:Nat→XH
 c:Nat→XM
 leader:Int
 f:Nat→Bool
 n:Nat
 deeds:Int
namespace CW
def setS(v:CW)(i:Nat)(x:XH):CW:={ v with s:=fun j=>if j=i then x else v.s j }
def setC(v:CW)(i:Nat)(x:XM):CW:={ v with c:=fun j=>if j=i then x else v.c j }
def setF(v:CW)(i:Nat)(b:Bool):CW:={ v with f:=fun j=>if j=i then b else v.f j }
def setL(v:CW)(l:Int):CW:={ v with leader:=l }
def setD(v:CW)(d:Int):CW:={ v with deeds:=d }
def setN(v:CW)(n:Nat):CW:={ v with n:=n }
def noF(v:CW):CW:={ v with f:=fun _=>false }
end CW
def svC(s:XH):List AV:=[.d (.bool s.up),.d (.sl 3 (s.disk.files.map AFile.row)),I s.peer.id,I s.peer.epoch,.d (.sl 7 (s.peer.log.map ATxn.row)),I s.peer.done,I s.tree.zxid,.d (.sl 9 (s.tree.nodes.map XG.row)),.d (.sl 1 (s.tree.sessions.map a8)),.d (.sl 3 (s.watches.map AWatch.row))]
def clC(c:XM):List AV:=[I c.session,I c.seen,.d (.sl 3 (c.cache.map AEntry.row))]
def wC(v:CW)(k:Nat):List AV:=svC (v.s 0)++(svC (v.s 1)++(svC (v.s 2)++(clC (v.c 0)++(clC (v.c 1)++(clC (v.c 2)++(clC (v.c 3)++(clC (v.c 4)++(clC (v.c 5)++(clC (v.c 6)++(clC (v.c 7)++(clC (v.c 8)++(clC (v.c 9)++(clC (v.c 10)++(clC (v.c 11)++(clC (v.c 12)++(clC (v.c 13)++(clC (v.c 14)++(clC (v.c 15)++[I v.leader,B (v.f 0),B (v.f 1),B (v.f 2),.osl k 7 0 v.n,I v.deeds]))))))))))))))))))
theorem Ok(v:CW)(k:Nat):(wC v k).length=84:=by rfl
theorem cgL(v:CW)(k:Nat):(wC v k).getD 78 .any=I v.leader:=by rfl
theorem cgDe(v:CW)(k:Nat):(wC v k).getD 83 .any=I v.deeds:=by rfl
theorem cgN(v:CW)(k:Nat):(wC v k).getD 82 .any=.osl k 7 0 v.n:=by rfl
theorem cgF(v:CW)(k i:Nat)(h:i<3):(wC v k).getD (79+i) .any=B (v.f i):=by rcases i with _|_|_|i<;>first|rfl|omega
theorem cgUp(v:CW)(k i:Nat)(h:i<3):(wC v k).getD (i*10) .any=B (v.s i).up:=by rcases i with _|_|_|i<;>first|rfl|omega
theorem Pj(v:CW)(k i:Nat)(h:i<3):((wC v k).drop (i*10+1)).take 1=[.d (.sl 3 ((v.s i).disk.files.map AFile.row))]:=by rcases i with _|_|_|i<;>first|rfl|omega
theorem Ov(v:CW)(k i:Nat)(h:i<3):((wC v k).drop (i*10+2)).take 4=[I (v.s i).peer.id,I (v.s i).peer.epoch,.d (.sl 7 ((v.s i).peer.log.map ATxn.row)),I (v.s i).peer.done]:=by rcases i with _|_|_|i<;>first|rfl|omega
theorem PY(v:CW)(k i:Nat)(h:i<3):(wC v k).getD (i*10+4) .any=.d (.sl 7 ((v.s i).peer.log.map ATxn.row)):=by rcases i with _|_|_|i<;>first|rfl|omega
theorem PE(v:CW)(k i:Nat)(h:i<3):((wC v k).drop (i*10+6)).take 3=[I (v.s i).tree.zxid,.d (.sl 9 ((v.s i).tree.nodes.map XG.row)),.d (.sl 1 ((v.s i).tree.sessions.map a8))]:=by rcases i with _|_|_|i<;>first|rfl|omega
theorem cgTz(v:CW)(k i:Nat)(h:i<3):(wC v k).getD (i*10+6) .any=I (v.s i).tree.zxid:=by rcases i with _|_|_|i<;>first|rfl|omega
theorem Ra(v:CW)(k i:Nat)(h:i<3):(wC v k).getD (i*10+9) .any=.d (.sl 3 ((v.s i).watches.map AWatch.row)):=by rcases i with _|_|_|i<;>first|rfl|omega
theorem cgSv(v:CW)(k i:Nat)(h:i<3):((wC v k).drop (i*10)).take 10=[.d (.bool (v.s i).up),.d (.sl 3 ((v.s i).disk.files.map AFile.row)),I (v.s i).peer.id,I (v.s i).peer.epoch,.d (.sl 7 ((v.s i).peer.log.map ATxn.row)),I (v.s i).peer.done,I (v.s i).tree.zxid,.d (.sl 9 ((v.s i).tree.nodes.map XG.row)),.d (.sl 1 ((v.s i).tree.sessions.map a8)),.d (.sl 3 ((v.s i).watches.map AWatch.row))]:=by rcases i with _|_|_|i<;>first|rfl|omega
theorem cgCl(v:CW)(k i:Nat)(h:i<16):((wC v k).drop (30+i*3)).take 3=[I (v.c i).session,I (v.c i).seen,.d (.sl 3 ((v.c i).cache.map AEntry.row))]:=by rcases i with _|_|_|_|_|_|_|_|_|_|_|_|_|_|_|_|i<;>first|rfl|omega
theorem Rf(v:CW)(k i:Nat)(h:i<16):(wC v k).getD (30+i*3) .any=I (v.c i).session:=by rcases i with _|_|_|_|_|_|_|_|_|_|_|_|_|_|_|_|i<;>first|rfl|omega
theorem csL(v:CW)(k:Nat):∀ l:Int,(wC v k).set 78 (I l)=wC (v.setL l) k:=by intro l;rfl
theorem csDe(v:CW)(k:Nat):∀ l:Int,(wC v k).set 83 (I l)=wC (v.setD l) k:=by intro l;rfl
theorem csN(v:CW)(k:Nat):∀ q n:Nat,(wC v k).set 82 (.osl q 7 0 n)=wC (v.setN n) q:=by intro q n;rfl
theorem csF(v:CW)(k i:Nat)(h:i<3):∀ b:Bool,(wC v k).set (79+i) (B b)=wC (v.setF i b) k:=by intro b;rcases i with _|_|_|i<;>first|rfl|omega
theorem csFs(v:CW)(k:Nat):spl (wC v k) [B false,B false,B false] 79=wC v.noF k:=by rfl
theorem Rc(v:CW)(k i:Nat)(h:i<3):∀ l:List AWatch,(wC v k).set (i*10+9) (.d (.sl 3 (l.map AWatch.row)))=wC (v.setS i ⟨(v.s i).up,(v.s i).disk,(v.s i).peer,(v.s i).tree,l⟩) k:=by intro l;rcases i with _|_|_|i<;>first|rfl|omega
theorem csSv(v:CW)(k i:Nat)(h:i<3):∀ x:XH,spl (wC v k) (svC x) (i*10)=wC (v.setS i x) k:=by intro x;rcases i with _|_|_|i<;>first|rfl|omega
theorem csCl(v:CW)(k i:Nat)(h:i<16):∀ x:XM,spl (wC v k) (clC x) (30+i*3)=wC (v.setC i x) k:=by intro x;rcases i with _|_|_|_|_|_|_|_|_|_|_|_|_|_|_|_|i<;>first|rfl|omega
theorem K9(v:CW)(i:Nat)(x:XH):(v.setS i x).s i=x:=Rx rfl
theorem K1(v:CW)(i:Nat)(x:Bool):(v.setF i x).f i=x:=Rx rfl
theorem QD(v:CW)(k i:Nat)(h:i<3):List.take 10 (List.drop (i*10) (List.take 30 (wC v k)))=[.d (.bool (v.s i).up),.d (.sl 3 ((v.s i).disk.files.map AFile.row)),I (v.s i).peer.id,I (v.s i).peer.epoch,.d (.sl 7 ((v.s i).peer.log.map ATxn.row)),I (v.s i).peer.done,I (v.s i).tree.zxid,.d (.sl 9 ((v.s i).tree.nodes.map XG.row)),.d (.sl 1 ((v.s i).tree.sessions.map a8)),.d (.sl 3 ((v.s i).watches.map AWatch.row))]:=by rcases i with _|_|_|i<;>first|rfl|omega
theorem Po(v:CW)(k i:Nat)(h:i<16)(a b:Int)(l:List AEntry):(wC v k).take (30+i*3)++[.d (.int .i64 a),.d (.int .i64 b),.d (.sl 3 (l.map AEntry.row))]++(wC v k).drop (30+i*3+3)=wC (v.setC i ⟨a,b,l⟩) k:=csCl v k i h ⟨a,b,l⟩
theorem cwSv(v:CW)(k i:Nat)(h:i<3)(up:Bool)(d:List AFile)(id ep:Int)(log:List ATxn)(done tz:Int)(nd:List XG)(se:List Int)(wt:List AWatch):(wC v k).take (i*10)++[.d (.bool up),.d (.sl 3 (d.map AFile.row)),.d (.int .i64 id),.d (.int .i64 ep),.d (.sl 7 (log.map ATxn.row)),.d (.int .i64 done),.d (.int .i64 tz),.d (.sl 9 (nd.map XG.row)),.d (.sl 1 (se.map a8)),.d (.sl 3 (wt.map AWatch.row))]++(wC v k).drop (i*10+10)=wC (v.setS i ⟨up,⟨d⟩,⟨id,ep,log,done⟩,⟨tz,nd,se⟩,wt⟩) k:=csSv v k i h ⟨up,⟨d⟩,⟨id,ep,log,done⟩,⟨tz,nd,se⟩,wt⟩
theorem cwFs(v:CW)(k:Nat):(wC v k).take 79++[.d (.bool false),.d (.bool false),.d (.bool false)]++(wC v k).drop 82=wC v.noF k:=csFs v k
theorem QF(v:CW)(i:Nat)(x:XH):(v.setS i x).c=v.c:=rfl
theorem Qp(v:CW)(i:Nat)(x:XH):(v.setS i x).leader=v.leader:=rfl
theorem QG(v:CW)(i:Nat)(x:XH):(v.setS i x).f=v.f:=rfl
theorem QH(v:CW)(i:Nat)(x:XH):(v.setS i x).n=v.n:=rfl
theorem P4(v:CW)(i:Nat)(x:Bool):(v.setF i x).s=v.s:=rfl
theorem Rk(v:CW)(i:Nat)(x:Bool):(v.setF i x).c=v.c:=rfl
theorem Q4(v:CW)(i:Nat)(x:Bool):(v.setF i x).leader=v.leader:=rfl
theorem PT(v:CW)(i:Nat)(x:Bool):(v.setF i x).n=v.n:=rfl
theorem QE(v:CW)(i:Nat)(x:XM):(v.setC i x).s=v.s:=rfl
theorem Qq(v:CW)(i:Nat)(x:XM):(v.setC i x).leader=v.leader:=rfl
theorem Rr(v:CW)(i:Nat)(x:XM):(v.setC i x).f=v.f:=rfl
theorem PP(v:CW)(i:Nat)(x:XM):(v.setC i x).n=v.n:=rfl
theorem Rh(v:CW)(x:Int):(v.setL x).s=v.s:=rfl
theorem Qt(v:CW)(x:Int):(v.setL x).c=v.c:=rfl
theorem QY(v:CW)(x:Int):(v.setL x).n=v.n:=rfl
theorem PQ(v:CW)(x:Int):(v.setL x).leader=x:=rfl
theorem QS(v:CW)(x:Nat):(v.setN x).s=v.s:=rfl
theorem Qz(v:CW)(x:Nat):(v.setN x).c=v.c:=rfl
theorem QX(v:CW)(x:Nat):(v.setN x).leader=v.leader:=rfl
theorem Qi(v:CW)(x:Nat):(v.setN x).n=x:=rfl
theorem M7(v:CW):v.noF.s=v.s:=rfl
theorem N1(v:CW):v.noF.c=v.c:=rfl
theorem NJ(v:CW):v.noF.n=v.n:=rfl
theorem My(v:CW):v.noF.leader=v.leader:=rfl
attribute [go_sem] Ok cgL cgDe cgN cgF cgUp Pj Ov PY PE cgTz Ra cgSv cgCl Rf csL csDe csN csF Rc Po cwSv cwFs K9 K1 QF Qp QG QH P4 Rk Q4 PT QE Qq Rr PP Rh Qt QY PQ QS Qz QX Qi M7 N1 NJ My
attribute [go_sem] QD Nat.add_zero Nat.mul_one
theorem yl(f:Nat→Nat)(v:CW)(k:Nat):renL f (wC v k)=wC v (f k):=rfl
theorem Ie(n:Nat)(v:CW)(k:Nat)(h:k<n):inL n (wC v k):=by unfold wC svC clC;simp only[Ss,Sp,inL,inV];simp only[Wx,SH];exact h
theorem IB(v:CW)(k:Nat):(wC v k)[82]?=some (.osl k 7 0 v.n):=rfl
theorem zu(v:CW)(k q:Nat):(wC v k).set 82 (.osl q 7 0 v.n)=wC v q:=rfl
theorem XC{hp:List ABlk}{cs:List AV}{rs:List (List DV)}{v:CW}(h0:hp[0]?=some (.cells (wC v 1)))(h1:hp[1]?=some (.rows 7 rs))(hc:cs[11]?=some (.d (.sc (.slice none 0 0))))(hin:cF cs) :
  af 2 hp (.agg cs) (ew (.agg (cs.set 11 (.osl 3 3 0 0))) [.cells (wC v 2),.dead,.rows 7 rs,.rows 3 []]):=by
 have hl0:0<hp.length:=(RA.1 h0).1;have hl1:1<hp.length:=(RA.1 h1).1;have s1:=Xe 0 82 (np:=2) (nt:=1) (env:=[(0,AV.agg cs)]) h0 (IB v 1) h1 (by simp) (by decide);rw[zu] at s1;have s2:=Xv 0 11 3 (np:=2) (nt:=1) (env:=[(0,AV.agg cs)]) (hp:=(hp.set 1 .dead).set 0 (.cells (wC v hp.length))++[.rows 7 rs]) (cs:=cs) rfl hc;refine WV (v':=.agg (cs.set 11 (.osl 3 3 0 0))) (hp':=[.cells (wC v 2),.dead,.rows 7 rs,.rows 3 []]) (ay.trans s1 (ay.trans s2 (ay.frame [0,1,hp.length,hp.length+1] rfl (fun i hi=>?_) ?_ (fun k hk=>?_) ?_ ?_))) (af.same ⟨rfl,rfl⟩)
 ·simp only[RP,RV,UD] at hi
  simp only[Ry,RQ,RD,R1];omega
 ·simp only[R7,RP,RV,UD,not_or,RS,Se,Wx]
  omega
 ·rcases k with _|_|k
  ·rfl
  ·rfl
  ·omega
 ·refine⟨⟨?_,?_⟩,X5⟩
  ·simp only[cz,SY,Ry,RQ,RD,R1]
   simp only[renV];rw[Ag,(eu _ cs hin).1];rfl
  ·exact EN _ _ _ _ (qZ (RI _) _ (eu (fun k=>k) cs hin).2) (by show 3<4;decide)
 ·refine⟨.inr ⟨?_,?_⟩,.inl rfl,.inr ⟨?_,?_⟩,.inr ⟨?_,?_⟩,X5⟩
  ·show((((hp.set 1 .dead).set 0 (ABlk.cells (wC v hp.length))++[ABlk.rows 7 rs])++[ABlk.rows 3 []])[0]?)=some (ABlk.cells (renL _ (wC v 2)))
   rw[yl];rw[RO (by simp),RO (by simp;omega),TG (by simp;omega)];rfl
  ·exact Ie _ _ _ (show 2<4 by decide)
  ·show((((hp.set 1 ABlk.dead).set 0 (ABlk.cells (wC v hp.length))++[ABlk.rows 7 rs])++[ABlk.rows 3 []])[hp.length]?)=_
   rw[RO (by simp),RG (by simp)];simp[renB]
  ·trivial
  ·show((((hp.set 1 ABlk.dead).set 0 (ABlk.cells (wC v hp.length))++[ABlk.rows 7 rs])++[ABlk.rows 3 []])[hp.length+1]?)=_
   rw[RG (by simp)];simp[renB]
  ·trivial
theorem Pp(n:Nat)(v:CW)(k:Nat):inL n (wC v k)=(k<n):=by unfold wC svC clC;simp only[Ss,Sp,inL,inV];simp only[Wx,SH]
theorem pw:∀(ks:List Nat) (hp:List ABlk) (j:Nat),j∉ks→(killIds ks hp)[j]?=hp[j]?
 |[],hp,j,_=>rfl
 | k::r,hp,j,h=>by
   rw[killIds,pw r _ j (fun hh=>h (R6 _ hh)),Ul (fun e=>h (by rw[e];exact St ..))]
theorem rE:∀(ks:List Nat) (hp:List ABlk),(killIds ks hp).length=hp.length
 |[],hp=>rfl
 |k::r,hp=>by rw[killIds,rE r,RQ]
theorem NE(f:Nat→Nat)(v:CW)(k:Nat):renL f (List.take 30 (wC v k))=List.take 30 (wC v k):=rfl
theorem OE(n:Nat)(v:CW)(k:Nat):inL n (List.take 30 (wC v k))=True:=by refine eq_true ?_;show inL n (svC (v.s 0)++(svC (v.s 1)++svC (v.s 2)));unfold svC;simp only[Ss,Sp,inL,inV,S6]
attribute [go_sem] yl Pp NE OE
theorem Xr{hp:List ABlk}{v y:AV}{sz:Nat}{rs:List (List DV)}(h0:hp[0]?=some (.rows sz rs))(hi:∀ j,j∈fE v→1≤j)(hf:cj hp v)(hn:cA (bB hp v))(hc:dW (bB hp v) y)(hy:cA y) :
  af 1 hp v (ew y [.rows sz rs]):=by
 have hl0:0<hp.length:=(RA.1 h0).1;have hlk:=rE (fE v) hp
 have s1:=XD 0 (np:=1) (nt:=1) (env:=[(0,v)]) (hp:=hp) (v:=v) (fun j hj=>by
  refine⟨fun hh=>by have:=hi j hh;omega,?_⟩;rcases j with _|j
  ·exact⟨_,h0,by simp⟩
  ·omega) rfl hf hn
 have hren:=nO (mAt [0] (killIds (fE v) hp).length) (bB hp v) hn;refine WV (v':=bB hp v) (hp':=[.rows sz rs]) (ay.trans s1 (ay.frame [0] rfl (fun i hi=>?_) (by decide) (fun k hk=>?_) ?_ ?_)) (af.coe hc (af.same ⟨rfl,rfl⟩))
 ·simp only[RP,RV,UD] at hi
  omega
 ·rcases k with _|k
  ·rfl
  ·omega
 ·refine⟨⟨?_,y9 (RI _) _ hren.2⟩,X5⟩
  simp only[cz,SY];exact hren.1.symm
 ·refine⟨.inr ⟨?_,X5⟩,X5⟩
  show(killIds (fE v) hp)[0]?=some (.rows sz rs);rw[pw _ _ _ (fun hh=>by have:=hi 0 hh;omega),h0]
theorem M8(c:XM)(l:List XJ)(h:c.cache.length≤100000)(hl:l.length*32≤140737488351232)(hr:aE (c.cache.map AEntry.path)) :
  ab Tryz.prog [.rows 3 (l.map XJ.row)] 187 [c.av,.osl 0 3 0 l.length] (ew (XM.av ⟨c.session,c.seen,dS c.session c.cache l⟩) [.rows 3 (l.map XJ.row)]):=by
 have hb:c.cache.length*40≤140737488351232:=by omega
 refine zJ Tryz.func187 Tryz.ntmps187 Tryz.results187 ?_;simp only[go_sem];refine zW qw (z1 (qm c hb)) X5 (z1 ?_);refine WQ (ι:=Nat) (fun k=>k≤l.length) (fun k=>l.length-k) [2,4,11,12] (fun k=>[(13,I k)]) (fun k=>[.rows 3 (l.map XJ.row),.cells [I c.session,I c.seen,.osl 3 3 0 (dS c.session c.cache (l.take k)).length],.cells [I 0,I 0,.d (.sc (.slice none 0 0))],.rows 3 ((dS c.session c.cache (l.take k)).map AEntry.row)]) 0 ?_ ?_ ?_
 ·omega
 ·simp only[go_sem,tL];exact zSm X5
 intro k hk;obtain⟨hr1,hn1⟩:=tQ (s:=c.session) (l.take k) hr;have hb1:(dS c.session c.cache (l.take k)).length*40≤140737488351232:=by omega
 have hpl:=nE (l:=dS c.session c.cache (l.take k)) (key:=(l.getD k default).event.path);simp only[go_sem]
 by_cases hm:(l.getD k default).event.path∈(dS c.session c.cache (l.take k)).map AEntry.path
 ·have hlt:=nq hr1 hm
  (refine zW qw (z2 ((sQ ⟨c.session,c.seen,dS c.session c.cache (l.take k)⟩ (l.getD k default).event.path hb1 hr1).re (by simp only;rw[decide_eq_true hm])) (ow (DB ((dS c.session c.cache (l.take k)).map AEntry.row) (place ((dS c.session c.cache (l.take k)).map AEntry.path) (l.getD k default).event.path) (by simpa using hlt) (by simpa using hb1)))) (zx @XJ.rgetD @dY) (z3 ?_ ?_ ?_)<;>(repeat with_reducible intro hc))
  ·refine⟨k+1,by omega,by omega,?_⟩
   rw[gM _ _ _ _ (by assumption),u5 (fun h=>hc.elim (fun x=>x h.1) (fun x=>h.2 x))];exact zFr [0,1,2,3] X5
  ·refine⟨k+1,by omega,by omega,?_⟩
   rw[gM _ _ _ _ (by assumption),rr (by assumption),rY hr1 hm];have hel:=cR _ _ hlt;exact zFr [0,1,2,5] @hel
  ·have e:k=l.length:=by omega
   subst e;simp only[RU]
   (refine zOp X5 ?_;simp(disch:=omega) only[go_sem,aa];refine Xr rfl (by intro j hj;simp only[go_sem,Sh,RP,RV,UD,WP,Sp,R5,Ss] at hj;omega) ?_ ?_ ?_ ?_<;>simp(disch:=omega) only[go_sem,aa,I,B,S,zj,RE])
 ·(refine zW qw (z1 ((sQ ⟨c.session,c.seen,dS c.session c.cache (l.take k)⟩ (l.getD k default).event.path hb1 hr1).re (by simp only;rw[RM hm]))) @XJ.rgetD (z3 ?_ ?_ ?_)<;>(repeat with_reducible intro hc))
  ·refine⟨k+1,by omega,by omega,?_⟩
   rw[gM _ _ _ _ (by assumption),u5 (fun h=>hc.elim (fun x=>x h.1) (fun x=>h.2 x))];exact zFr [0,1,2,3] X5
  ·refine⟨k+1,by omega,by omega,?_⟩
   rw[gM _ _ _ _ (by assumption),rr (by assumption),vF hm];exact zFr [0,1,2,3] X5
  ·have e:k=l.length:=by omega
   subst e;simp only[RU]
   (refine zOp X5 ?_;simp(disch:=omega) only[go_sem,aa];refine Xr rfl (by intro j hj;simp only[go_sem,Sh,RP,RV,UD,WP,Sp,R5,Ss] at hj;omega) ?_ ?_ ?_ ?_<;>simp(disch:=omega) only[go_sem,aa,I,B,S,zj,RE])
theorem qUd0:Pls [XE [0,1,2,3,4,5,6,7,8,10,11,9,12,13] .done]:=pls _
def kz(ns:List XJ)(c:XM):XM:=⟨c.session,c.seen,dS c.session c.cache ns⟩
def CW.told(v:CW)(ns:List XJ)(k:Nat):CW:={ v with c:=fun j=>if j<k then kz ns (v.c j) else v.c j }
theorem E7(v:CW)(ns:List XJ)(k:Nat):(v.told ns k).c k=v.c k:=Rw (Nat.lt_irrefl k)
theorem wx(v:CW)(ns:List XJ):v.told ns 0=v:=by
 unfold CW.told
 have:(fun j=>if j<0 then kz ns (v.c j) else v.c j)=v.c:=funext fun j=>Rw (UE j)
 rw[this]
theorem xv(v:CW)(ns:List XJ)(k:Nat):(v.told ns k).setC k (kz ns (v.c k))=v.told ns (k+1):=by
 unfold CW.told CW.setC
 have:(fun j=>if j=k then kz ns (v.c k) else if j<k then kz ns (v.c j) else v.c j)=fun j=>if j<k+1 then kz ns (v.c j) else v.c j:=funext fun j=>by
  by_cases e:j=k
  ·subst e;rw[Rx rfl,Rx (Nat.lt_succ_self j)]
  ·rw[Rw e]
   by_cases h:j<k
   ·rw[Rx h,Rx (by omega)]
   ·rw[Rw h,Rw (by omega)]
 simp only[this]
theorem Eu(v:CW)(rs:List (List DV))(ns:List XJ)(hc:∀ i,i<16→(v.c i).cache.length≤100000∧aE ((v.c i).cache.map AEntry.path))(hl:ns.length*32≤140737488351232) :
  ab Tryz.prog [.cells (wC v 1),.rows 7 rs,.rows 3 (ns.map XJ.row)] 116 [.ptr 0 0,.osl 2 3 0 ns.length] (ew (.tup []) [.cells (wC (v.told ns 16) 1),.rows 7 rs,.rows 3 (ns.map XJ.row)]):=by
 refine zJ Tryz.func116 Tryz.ntmps116 Tryz.results116 ?_;simp only[go_sem];refine zW qw zn X5 (z1 ?_);refine WQ (ι:=Nat) (fun k=>k≤16) (fun k=>16-k) [0,1] (fun k=>[(5,I k)]) (fun k=>[.cells (wC (v.told ns k) 1),.rows 7 rs,.rows 3 (ns.map XJ.row)]) 0 ?_ ?_ ?_
 ·omega
 ·simp only[go_sem,wx];exact zSm X5
 intro k hk;simp only[go_sem]
 by_cases hk2:k<16
 ·obtain⟨c1,c2⟩:=hc k hk2
  have ht:=M8 (v.c k) ns c1 hl c2
  (refine zW qw (z2 qUd0 (ac [2] ht)) @E7 (z1 ?_)<;>(repeat with_reducible intro hc))
  refine⟨k+1,by omega,by omega,?_⟩;rw[←xv];exact zFr [0,1,2] @kz.eq_1
 ·have e:k=16:=by omega
  subst e
  (refine zW qw zn X5 (z1 ?_)<;>(repeat with_reducible intro hc))
  (refine zOp X5 ?_;simp(disch:=omega) only[go_sem,aa];refine WV ?_ (af.same ⟨rfl,rfl⟩);refine zV [0,1,2] rfl rfl rfl rfl ?_ ?_<;>simp(disch:=omega) only[go_sem,aa,UL,UM])
theorem P8:Pls [XE [0,1,2,3,4,5,6] .done]:=pls _
attribute [go_sem] Tryz.ntmps108 Tryz.results108
def cw(w:AWorld):CW:=⟨w.s,w.c,w.leader,w.f,w.done.length,w.deeds⟩
theorem zr{w:AWorld}{i:Nat}(h:i<w.sv.length)(x:XH):(cw w).setS i x=cw (w.setS i x):=by
 have:(w.setS i x).s=fun j=>if j=i then x else w.s j:=funext fun j=>fv h x j
 unfold cw CW.setS;rw[this];rfl
theorem MK{w:AWorld}{i:Nat}(h:i<w.cl.length)(x:XM):(cw w).setC i x=cw (w.setC i x):=by
 have:(w.setC i x).c=fun j=>if j=i then x else w.c j:=funext fun j=>Ka h x j
 unfold cw CW.setC;rw[this];rfl
theorem zK{w:AWorld}{i:Nat}(h:i<w.fl.length)(x:Bool):(cw w).setF i x=cw (w.setF i x):=by
 have:(w.setF i x).f=fun j=>if j=i then x else w.f j:=funext fun j=>qA h x j
 unfold cw CW.setF;rw[this];rfl
theorem iM(w:AWorld):((cw w).setL (-1)).noF=cw w.resign:=by
 have:w.resign.f=fun _=>false:=funext fun j=>Bd w j
 unfold cw CW.setL CW.noF;rw[this];rfl
def avN(r:XN)(nt:AV):AV:=.agg [I r.code,I r.zxid,S r.path,S r.data,I r.stat.czxid,I r.stat.mzxid,I r.stat.pzxid,I r.stat.version,I r.stat.cversion,I r.stat.owner,I r.stat.kids,nt]
abbrev d5(w:AWorld)(r:XN):AV→List ABlk→Prop:=ew (avN r (.osl 3 3 0 r.notes.length)) [.cells (wC (cw w) 2),.dead,.rows 7 (w.done.map ATxn.row),.rows 3 (r.notes.map XJ.row)]
abbrev inW(w:AWorld):List ABlk:=[.cells (wC (cw w) 1),.rows 7 (w.done.map ATxn.row)]
theorem XA{hp:List ABlk}{w:AWorld}{r:XN}(hn:r.notes=[])(h0:hp[0]?=some (.cells (wC (cw w) 1)))(h1:hp[1]?=some (.rows 7 (w.done.map ATxn.row))) :
  af 2 hp (avN r (.d (.sc (.slice none 0 0)))) (d5 w r):=by
 have h:=XC (cs:=[I r.code,I r.zxid,S r.path,S r.data,I r.stat.czxid,I r.stat.mzxid,I r.stat.pzxid,I r.stat.version,I r.stat.cversion,I r.stat.owner,I r.stat.kids,.d (.sc (.slice none 0 0))]) h0 h1 rfl (by simp[cF,cA]);unfold d5;rw[hn];exact h
theorem WU{hp:List ABlk}{w:AWorld}{r:XN}{v:CW}(hv:v=cw w)(hn:r.notes=[])(h0:hp[0]?=some (.cells (wC v 1)))(h1:hp[1]?=some (.rows 7 (w.done.map ATxn.row))) :
  af 2 hp (avN r (.d (.sc (.slice none 0 0)))) (d5 w r):=by
 subst hv;exact XA hn h0 h1
theorem Xa{hp:List ABlk}{w:AWorld}{r:XN}{v:CW}(p q:Nat)(hv:v=cw w)(h0:hp[0]?=some (.cells (wC v p)))(h1:hp[p]?=some (.rows 7 (w.done.map ATxn.row)))(hp0:p≠0)(hq:hp[q]?=some (.rows 3 (r.notes.map XJ.row)))(hq0:q≠0∧q≠1∧q≠p) :
  af 2 hp (avN r (.osl q 3 0 r.notes.length)) (d5 w r):=by
 subst hv;have hl0:0<hp.length:=(RA.1 h0).1;have hlp:p<hp.length:=(RA.1 h1).1;have hlq:q<hp.length:=(RA.1 hq).1;have s1:=Xe 0 82 (np:=2) (nt:=1) (env:=[(0,avN r (.osl q 3 0 r.notes.length))]) h0 (IB (cw w) p) h1 (by simp) hp0;rw[zu] at s1;refine WV (v':=avN r (.osl 3 3 0 r.notes.length)) (hp':=[.cells (wC (cw w) 2),.dead,.rows 7 (w.done.map ATxn.row),.rows 3 (r.notes.map XJ.row)]) (ay.trans s1 (ay.frame [0,1,hp.length,q] rfl (fun i hi=>?_) ?_ (fun k hk=>?_) ?_ ?_)) (af.same ⟨rfl,rfl⟩)
 ·simp only[RP,RV,UD] at hi
  simp only[Ry,RQ,RD,R1];omega
 ·simp only[R7,RP,RV,UD,not_or,RS,Se,Wx]
  omega
 ·rcases k with _|_|k
  ·rfl
  ·rfl
  ·omega
 ·exact⟨⟨rfl,⟨X5,X5,X5,X5,X5,X5,X5,X5,X5,X5,X5,(show 3<4 by decide),X5⟩⟩,X5⟩
 ·refine⟨.inr ⟨?_,?_⟩,.inl rfl,.inr ⟨?_,X5⟩,.inr ⟨?_,X5⟩,X5⟩
  ·show(((hp.set p ABlk.dead).set 0 (ABlk.cells (wC (cw w) hp.length))++[ABlk.rows 7 (w.done.map ATxn.row)])[0]?)=some (ABlk.cells (renL _ (wC (cw w) 2)))
   rw[yl,RO (by simp;omega),TG (by simp;omega)];rfl
  ·exact Ie _ _ _ (show 2<4 by decide)
  ·show(((hp.set p ABlk.dead).set 0 (ABlk.cells (wC (cw w) hp.length))++[ABlk.rows 7 (w.done.map ATxn.row)])[hp.length]?)=_
   rw[RG (by simp)];simp[renB]
  ·show(((hp.set p ABlk.dead).set 0 (ABlk.cells (wC (cw w) hp.length))++[ABlk.rows 7 (w.done.map ATxn.row)])[q]?)=_
   rw[RO (by simp;omega),Ul (by omega),Ul (by omega),hq];rfl
theorem cw_s(w:AWorld):(cw w).s=w.s:=rfl
theorem cw_c(w:AWorld):(cw w).c=w.c:=rfl
theorem cw_l(w:AWorld):(cw w).leader=w.leader:=rfl
theorem cw_f(w:AWorld):(cw w).f=w.f:=rfl
theorem cw_n(w:AWorld):(cw w).n=w.done.length:=rfl
theorem cw_d(w:AWorld):(cw w).deeds=w.deeds:=rfl
attribute [go_sem] cw_s cw_c cw_l cw_f cw_n cw_d
structure WL (w:AWorld):Prop where
 sl:w.sv.length=3
 fl:w.fl.length=3
 cl:w.cl.length=16
theorem vU{w:AWorld}(h:w.sv.length=3){i:Nat}(hi:i<3)(x:XH):(cw w).setS i x=cw (w.setS i x):=zr (by omega) x
theorem Qc{w:AWorld}(h:w.fl.length=3){i:Nat}(hi:i<3)(b:Bool):(cw w).setF i b=cw (w.setF i b):=zK (by omega) b
theorem KH{w:AWorld}(h:w.fl.length=3){i:Nat}(hi:i<3)(x:XH)(j:Nat)(b:Bool):(cw (w.setS j x)).setF i b=cw ((w.setS j x).setF i b):=zK (w:=w.setS j x) (show i<w.fl.length by omega) b
theorem GQ{w:AWorld}(h:w.cl.length=16){i:Nat}(hi:i<16)(x:XM):(cw w).setC i x=cw (w.setC i x):=MK (by omega) x
theorem Ki(w:AWorld)(i:Nat)(keep:Int)(hi:i<3)(hw:WL w)(hs:(w.s i).wf)(ii:Int)(hii:ii=(i:Int)):ab Tryz.prog (inW w) 59 [.ptr 0 0,I ii,I keep] (d5 (iu w i keep).1 (iu w i keep).2):=by
 subst hii;have hct:=IQ (w.s i) keep hs;obtain⟨e1,e2,e3⟩:=hw;unfold iu
 by_cases hu:(w.s i).up=false
 ·rw[Rx hu]
  unfold inW d5;refine zJ Tryz.func59 Tryz.ntmps59 Tryz.results59 ?_;simp only[go_sem];refine zW qw zn @hu (z1 (fun hc=>?_))
  all_goals try exact zk1
  (refine zOp X5 ?_;simp(disch:=omega) only[go_sem,aa];exact WU (r:=noR 14) (rfl) rfl rfl rfl)
 rw[Rw hu];have hu':(w.s i).up=true:=by simpa using hu
 generalize bR (w.s i) keep=q at hct ⊢;obtain⟨x,e⟩:=q;simp only at hct ⊢
 by_cases he:e=0
 case neg=>
  rw[Rx he];unfold inW d5;refine zJ Tryz.func59 Tryz.ntmps59 Tryz.results59 ?_;simp only[go_sem]
  (refine zW qw (z1 hct) X5 (z2 ?_ ?_)<;>(repeat with_reducible intro hc))
  all_goals first|(exfalso;omega)|(exfalso;exact absurd (by assumption) hu)|skip
  (refine zOp X5 ?_;simp(disch:=omega) only[go_sem,aa];exact WU (r:=noR e) (rfl) rfl rfl rfl)
 subst he;rw[Rw (fun h=>h rfl)];have h1:((cw w).setS i x).setF i false=cw ((w.setS i x).setF i false):=by rw[zr (by omega),zK (by show i<w.fl.length;omega)]
 by_cases hl:w.leader=(i:Int)
 ·rw[Rx hl]
  unfold inW d5;refine zJ Tryz.func59 Tryz.ntmps59 Tryz.results59 ?_;simp only[go_sem]
  (refine zW qw (z2 (ic Tryz.func108) hct) @hl (z2 ?_ ?_)<;>(repeat with_reducible intro hc))
  all_goals first|(exfalso;omega)|(exfalso;exact absurd (by assumption) hu)|skip
  (refine zOp X5 ?_;simp(disch:=omega) only[go_sem,aa];exact WU (r:=noR 0) ((congrArg (fun v:CW=>(v.setL (-1)).noF) h1).trans (iM _)) rfl rfl rfl)
 ·rw[Rw hl]
  unfold inW d5;refine zJ Tryz.func59 Tryz.ntmps59 Tryz.results59 ?_;simp only[go_sem]
  (refine zW qw (z2 (ic Tryz.func108) hct) X5 (z2 ?_ ?_)<;>(repeat with_reducible intro hc))
  all_goals first|(exfalso;omega)|(exfalso;exact absurd (by assumption) hu)|skip
  (refine zOp X5 ?_;simp(disch:=omega) only[go_sem,aa];exact WU (r:=noR 0) (h1) rfl rfl rfl)
theorem Rg(w:AWorld)(i:Nat)(hi:i<3)(hw:WL w)(hs:(w.s i).wf)(ii:Int)(hii:ii=(i:Int)):ab Tryz.prog (inW w) 58 [.ptr 0 0,I ii] (d5 (upW w i).1 (upW w i).2):=by
 subst hii;have hct:=IH i (w.s i).disk hs.2.1.1 hs.2.1.2;obtain⟨e1,e2,e3⟩:=hw;unfold upW
 by_cases hu:(w.s i).up=true
 ·rw[Rx hu]
  unfold inW d5;refine zJ Tryz.func58 Tryz.ntmps58 Tryz.results58 ?_;simp only[go_sem];refine zW qw zn @hu (z1 (fun hc=>?_))
  all_goals try exact zk1
  (refine zOp X5 ?_;simp(disch:=omega) only[go_sem,aa];exact WU (r:=noR 8) (rfl) rfl rfl rfl)
 rw[Rw hu];have hu':(w.s i).up=false:=by simpa using hu
 generalize cK i (w.s i).disk.files=q at hct ⊢;obtain⟨x,e⟩:=q;simp only at hct ⊢
 by_cases he:e=0
 case neg=>
  rw[Rx he];unfold inW d5;refine zJ Tryz.func58 Tryz.ntmps58 Tryz.results58 ?_;simp only[go_sem];refine zW qw (z2 P8 hct) @hu' (z1 (fun hc hc=>?_))
  all_goals try exact zk1
  (refine zOp X5 ?_;simp(disch:=omega) only[go_sem,aa];exact WU (r:=noR e) (rfl) rfl rfl rfl)
 subst he;rw[Rw (fun h=>h rfl)];have h1:(cw w).setS i x=cw (w.setS i x):=zr (by omega) x;unfold inW d5;refine zJ Tryz.func58 Tryz.ntmps58 Tryz.results58 ?_;simp only[go_sem];refine zW qw (z2 P8 hct) @hu' (z1 (fun hc hc=>?_))
 all_goals try exact zk1
 (refine zOp X5 ?_;simp(disch:=omega) only[go_sem,aa];exact WU (r:=noR 0) (h1) rfl rfl rfl)
attribute [go_sem] Tryz.ntmps108 Tryz.results108
theorem xh{l:List XP}(h:(bQ l).2.2=0):∃ b:Nat,(bQ l).1=(b:Int)∧b<l.length∧okI (bQ l).2.1:=by
 unfold bQ at h ⊢;split at h
 ·rename_i h0
  rw[Rx h0];split at h
  ·exact absurd h (by decide)
  ·rename_i h1
   rw[Rw h1];split at h
   ·exact absurd h (by decide)
   ·rename_i h2
    rw[Rw h2];obtain⟨a,b,c⟩:=pS l.length h0;exact⟨_,rfl,by omega,by simp only;constructor<;>omega⟩
 ·exact absurd h (by assumption)
def dn(w:AWorld)(k:Nat):List XP:=((List.range k).filter fun i=>(w.s i).up).map fun i=>(w.s i).peer
theorem d6(w:AWorld)(k:Nat):dn w (k+1)=if(w.s k).up=true then dn w k++[(w.s k).peer] else dn w k:=by
 unfold dn;rw[Vt,Sn,Sb];split
 ·rename_i h
  congr 1;simp[h]
 ·rename_i h
  simp[h]
theorem wW{w:AWorld}(h:w.sv.length=3):dn w 3=bS w:=by
 have:w.sv=[w.s 0,w.s 1,w.s 2]:=by unfold AWorld.s;generalize w.sv=l at h ⊢;rcases l with _|⟨a,_|⟨b,_|⟨c,_|⟨d,l⟩⟩⟩⟩<;>first|rfl|(simp at h)
 unfold bS;rw[this];rw[d6,d6,d6];generalize w.s 0=a;generalize w.s 1=b;generalize w.s 2=c;have h0:dn w 0=[]:=rfl;rw[h0];cases ha:a.up<;>cases hb:b.up<;>cases hc:c.up<;>simp[ha,hb,hc]
theorem jy(w:AWorld):∀ k,(dn w k).length≤k
 |0=>RE _
 | k+1=>by
   have:=jy w k;rw[d6];split
   ·rw[Ry,Sj];omega
   ·omega
theorem tP{w:AWorld}{k:Nat}{p:XP}(h:p∈dn w k):∃ i,i<k∧p=(w.s i).peer:=by unfold dn at h;obtain⟨i,hi,e⟩:=SJ.1 h;exact⟨i,Ua.1 (Tr.1 hi).1,e.symm⟩
structure ElOk (w:AWorld):Prop where
 l:WL w
 s:∀ i,i<3→GS (w.s i)
 n:∀ i,i<3→(w.s i).peer.log.length≤100000
 v:∀ i,i<3→(w.s i).watches.length≤400
 c:∀ i,i<16→(w.c i).cache.length≤100000∧aE ((w.c i).cache.map AEntry.path)
 d:w.done.length≤100000
theorem sh{k:Nat}(h:k<3):([0,1,2]:List Nat).drop k=k::([0,1,2]:List Nat).drop (k+1):=by rcases k with _|_|_|k<;>first|rfl|omega
structure ElInv (w:AWorld) (L:List ATxn) (ep:Int) (F:AWorld×List XJ×Int) (v:Nat×AWorld×List XJ):Prop where
 k:v.1≤3
 f:bH L ep (([0,1,2]:List Nat).drop v.1) v.2.1 v.2.2=F
 l:WL v.2.1
 s:∀ i,v.1≤i→i<3→v.2.1.s i=w.s i
 d:v.2.1.done=w.done
 n:v.2.2.length≤400*v.1
 c:v.2.1.cl=w.cl
theorem ElInv.down{w:AWorld}{L:List ATxn}{ep:Int}{F:AWorld×List XJ×Int}{v:Nat×AWorld×List XJ}(h:ElInv w L ep F v)(hk:v.1<3)(hu:(w.s v.1).up=false):ElInv w L ep F (v.1+1,v.2):=by obtain⟨h1,h2,h3,h4,h5,h6,h7⟩:=h;have hs:=h4 v.1 (RE _) hk;rw[sh hk,bH,hs,Rx hu] at h2;exact⟨hk,h2,h3,fun i a b=>h4 i (by simp only at a;omega) b,h5,by simp only;omega,h7⟩
theorem ElInv.stop1{w:AWorld}{L:List ATxn}{ep:Int}{F:AWorld×List XJ×Int}{v:Nat×AWorld×List XJ}(h:ElInv w L ep F v)(hk:v.1<3)(hu:¬ (w.s v.1).up=false)(hf:(aG (w.s v.1) L ep).2≠0):F=(v.2.1,v.2.2,(aG (w.s v.1) L ep).2):=by have h2:=h.f;have hs:=h.s v.1 (RE _) hk;rw[sh hk,bH,hs,Rw hu,Rx hf] at h2;exact h2.symm
theorem ElInv.stop2{w:AWorld}{L:List ATxn}{ep:Int}{F:AWorld×List XJ×Int}{v:Nat×AWorld×List XJ}(h:ElInv w L ep F v)(hk:v.1<3)(hu:¬ (w.s v.1).up=false)(hf:¬ (aG (w.s v.1) L ep).2≠0)
  (hc:(au (aG (w.s v.1) L ep).1 L.length).2.2≠0):F=(v.2.1,v.2.2,(au (aG (w.s v.1) L ep).1 L.length).2.2):=by
 have h2:=h.f;have hs:=h.s v.1 (RE _) hk;rw[sh hk,bH,hs,Rw hu,Rw hf,Rx hc] at h2;exact h2.symm
theorem ElInv.next{w:AWorld}{L:List ATxn}{ep:Int}{F:AWorld×List XJ×Int}{v:Nat×AWorld×List XJ}(h:ElInv w L ep F v)(hk:v.1<3)(hu:¬ (w.s v.1).up=false)(hf:¬ (aG (w.s v.1) L ep).2≠0)
  (hc:¬ (au (aG (w.s v.1) L ep).1 L.length).2.2≠0) (hw:(w.s v.1).watches.length≤400) :
  ElInv w L ep F (v.1+1,(v.2.1.setS v.1 (au (aG (w.s v.1) L ep).1 L.length).1).setF v.1 true,v.2.2++(au (aG (w.s v.1) L ep).1 L.length).2.1):=by
 obtain⟨h1,h2,⟨e1,e2,e3⟩,h4,h5,h6,h7⟩:=h;have hs:=h4 v.1 (RE _) hk;rw[sh hk,bH,hs,Rw hu,Rw hf,Rw hc] at h2;have hn:=fb (aG (w.s v.1) L ep).1 L.length;have hn2:=(jA (w.s v.1) L ep).length_le;refine⟨hk,h2,⟨?_,?_,e3⟩,fun i a b=>?_,h5,?_,h7⟩
 ·show(v.2.1.sv.set _ _).length=3;rw[RQ];exact e1
 ·show(v.2.1.fl.set _ _).length=3;rw[RQ];exact e2
 ·simp only at a
  show(v.2.1.setS v.1 _).s i=w.s i;rw[fv (by omega),Rw (by omega)];exact h4 i (by omega) b
 ·simp only[Ry];omega
theorem ElInv.end{w:AWorld}{L:List ATxn}{ep:Int}{F:AWorld×List XJ×Int}{v:Nat×AWorld×List XJ}(h:ElInv w L ep F v)(hk:¬ v.1<3):F=(v.2.1,v.2.2,0):=by
 have h2:=h.f;have hk3:v.1=3:=by have:=h.k;omega
 rw[hk3] at h2;exact h2.symm
theorem sT{w:AWorld}(h:w.cl.length=16)(ns:List XJ):(cw w).told ns 16=cw (dq w ns):=by
 have:(fun j=>if j<16 then kz ns (w.c j) else w.c j)=(dq w ns).c:=funext fun j=>by
  by_cases hj:j<16
  ·rw[Rx hj,uE (by omega)];rfl
  ·rw[Rw hj]
   unfold AWorld.c dq;simp only;rw[Ru,Ru,RX (by omega),RX (by simp;omega)]
 show(CW.mk w.s (fun j=>if j<16 then kz ns (w.c j) else w.c j) w.leader w.f w.done.length w.deeds)=_;rw[this];rfl
theorem LI(w:AWorld)(hw:ElOk w):ab Tryz.prog (inW w) 57 [.ptr 0 0] (d5 (dj w).1 (dj w).2):=by
 obtain⟨⟨e1,e2,e3⟩,hs,hn,hv4,hc16,hd⟩:=hw;unfold dj;rw[←wW e1];unfold inW d5;refine zJ Tryz.func57 Tryz.ntmps57 Tryz.results57 ?_;simp only[go_sem];refine zW qw zn X5 (z1 ?_);refine WR (WT 3 4 rfl) ?_;simp only[go_sem];refine WQ (ι:=Nat) (fun k=>k≤3) (fun k=>3-k) [0,2,19] (fun k=>[(20,I k),(3,.osl 3 4 0 (dn w k).length)]) (fun k=>[.cells (wC (cw w) 1),.rows 7 (w.done.map ATxn.row),.cells [I 0,I 0,S [],S [],I 0,I 0,I 0,I 0,I 0,I 0,I 0,.d (.sc (.slice none 0 0))],.rows 4 ((dn w k).map XP.row)]) 0 ?_ ?_ ?_
 ·omega
 ·simp only[go_sem,show dn w 0=[] from rfl];exact zSm X5
 intro k hk;simp only[go_sem]
 by_cases hk3:k<3
 ·have hpl:=jy w k
  (refine zW qw zn X5 (z2 ?_ ?_)<;>(repeat with_reducible intro hc))
  all_goals(try(exfalso;omega))
  ·refine⟨k+1,by omega,by omega,?_⟩
   rw[d6,Rx hc];exact zFr [0,1,2,6] (zx @List.map_append.{0,0} (zx @List.map_cons.{0,0} (zx @List.map_nil.{0,0} (zx @XP.row.eq_1 (zx @List.length_append.{0} (zx @List.length_cons.{0} @List.length_nil.{0}))))))
  ·refine⟨k+1,by omega,by omega,?_⟩
   rw[d6,Rw (by rw[hc];decide)];exact zFr [0,1,2,3] X5
 have e:k=3:=by omega
 subst e;have hPl:=jy w 3;have hPm:=fun p hp=>@tP w 3 p hp
 have hPg:∀ p,p∈dn w 3→p.log.length≤100000∧∀ x,x∈p.log→x.wf∧x.path.length≤1048576:=fun p hp=>by obtain⟨i,hi,rfl⟩:=hPm p hp;exact⟨hn i hi,fun x hx=>⟨(hs i hi).w.2.2.1.2.2.1.2 x hx,(hs i hi).p x hx⟩⟩
 have hel:=Nu (dn w 3) (by omega) (fun p hp=>by have:=(hPg p hp).1;omega);have hok:=@xh (dn w 3);generalize dn w 3=P at hPl hPm hPg hel hok ⊢;generalize bQ P=q at hel hok ⊢;obtain⟨q1,ep,q3⟩:=q;simp only[jS] at hel hok ⊢
 by_cases hq:q3=0
 case neg=>
  simp only[ne_eq,hq,RS,SY]
  (refine zW qw (z1 hel) X5 (z1 ?_)<;>(repeat with_reducible intro hc))
  all_goals try exact zk1
  (refine zOp X5 ?_;simp(disch:=omega) only[go_sem,aa];exact WU (r:=noR q3) (rfl) rfl rfl rfl)
 subst hq;obtain⟨b,hb,hbl,hep⟩:=hok rfl;subst hb;simp only[ne_eq,Td,S8,SW];obtain⟨hL1,hL2⟩:=hPg _ (aZ P b hbl);have hrow:=fun z=>XP.rgetD P b z hbl
 generalize P.getD b default=B at hL1 hL2 hrow ⊢;generalize hF:bH B.log ep [0,1,2] w.resign []=F
 (refine zW qw (z2 (ic Tryz.func108) hel) (zx @hrow @iM) (z1 ?_)<;>(repeat with_reducible intro hc))
 refine WR (WT 10 3 rfl) ?_;simp only[go_sem];refine WQ (ι:=Nat×AWorld×List XJ) (fun v=>ElInv w B.log ep F v) (fun v=>3-v.1) [0,2,3,6,7,9] (fun v=>[(48,I v.1),(10,.osl 4 3 0 v.2.2.length)]) (fun v=>[.cells (wC (cw v.2.1) 1),.rows 7 (w.done.map ATxn.row),.cells [I 0,I 0,S [],S [],I 0,I 0,I 0,I 0,I 0,I 0,I 0,.d (.sc (.slice none 0 0))],.rows 4 (P.map XP.row),.rows 3 (v.2.2.map XJ.row)]) (0,w.resign,[]) ?_ ?_ ?_
 ·exact⟨RI _,hF,⟨e1,rfl,e3⟩,fun i _ _=>rfl,rfl,RE _,rfl⟩
 ·simp only[go_sem];exact zFr [0,1,2,3,4] X5
 intro v hv;simp only[go_sem];have hvk:=hv.k;have hvn:=hv.n
 by_cases hk4:v.1<3
 ·have hs0:=hv.s v.1 (RE _) hk4
  have hg:=hs v.1 hk4;have hw4:=hv4 v.1 hk4;have hL1':B.log.length≤1048576:=by omega
  have hfo:=HJ (w.s v.1) B.log ep hg.w (fun x hx=>(hL2 x hx).1) hL1' hep;have hfg:=xb (ep:=ep) hg hL2 hL1' hep;have hco:=AB (aG (w.s v.1) B.log ep).1 B.log.length hfg.w hfg.t hfg.p;have hdn:=hv.down hk4;have hst1:=hv.stop1 hk4;have hst2:=hv.stop2 hk4;have hnx:=fun a b c=>hv.next hk4 a b c hw4
  have hcf:=fb (aG (w.s v.1) B.log ep).1 B.log.length;have hff:=(jA (w.s v.1) B.log ep).length_le
  by_cases hu:(w.s v.1).up=false
  ·(refine zW qw zn @hs0 (z2 ?_ ?_)<;>(try with_reducible intro(K:ASt→Prop) hK)<;>(repeat with_reducible intro hc))
   all_goals try exact zk3
   refine⟨(v.1+1,v.2),hdn hu,by simp only;omega,?_⟩;exact zFr [0,1,2,3,4] X5
  generalize aG (w.s v.1) B.log ep=fo at hfo hfg hco hst1 hst2 hnx hcf hff;obtain⟨f1,f2⟩:=fo;simp only at hfo hfg hco hst1 hst2 hnx hcf hff
  by_cases hf2:f2=0
  case neg=>
   have hF2:=hst1 hu hf2;subst hF2;simp only[ne_eq,hf2,RS,SY]
   (refine zW qw (z1 hfo) @hs0 (z2 ?_ ?_)<;>(repeat with_reducible intro hc))
   all_goals try exact zk3
   (refine zOp @SH ?_;simp(disch:=omega) only[go_sem,aa,SH];exact WU (r:=noR f2) (rfl) rfl rfl (by rw[hv.d];rfl))
  subst hf2;generalize au f1 B.log.length=co at hco hst2 hnx hcf;obtain⟨c1,cn,ce⟩:=co;simp only at hco hst2 hnx hcf
  by_cases hce:ce=0
  case neg=>
   have hF2:=hst2 hu (fun h=>h rfl) hce;subst hF2;simp only[ne_eq,hce,RS,SY]
   (refine zW qw (z2 hfo hco) @hs0 (z2 ?_ ?_)<;>(repeat with_reducible intro hc))
   all_goals try exact zk3
   (refine zOp @SH ?_;simp(disch:=omega) only[go_sem,aa,SH];exact WU (r:=noR ce) (rfl) rfl rfl (by rw[hv.d];rfl))
  subst hce
  (refine zW qw (z2 hfo hco) @hs0 (z2 ?_ ?_)<;>(repeat with_reducible intro hc))
  all_goals try exact zk3
  refine⟨_,hnx hu (fun h=>h rfl) (fun h=>h rfl),by simp only;omega,?_⟩;have k1:=vU hv.l.sl hk4;have k2:=KH hv.l.fl hk4;exact zFr [0,1,2,3,6] (zx @List.map_append.{0,0} (zx @List.length_append.{0} (zx @k1 @k2)))
 have hF2:=hv.end hk4;subst hF2;simp only[ne_eq,Td,S8];have hla:=mw B.log (by omega);have htl:=Eu ((cw v.2.1).setL B.id) (w.done.map ATxn.row) v.2.2 (fun i hi=>by have:=hc16 i hi;show(v.2.1.cl.getD i default).cache.length≤_∧aE ((v.2.1.cl.getD i default).cache.map _);rw[hv.c];exact this) (by omega)
 (refine zW qw (z2 (ac [0,1,4] htl) hla) @hrow (z1 ?_)<;>(repeat with_reducible intro hc))
 all_goals try exact zk1
 refine zOp X5 ?_;simp(disch:=omega) only[go_sem,aa];exact Xa 1 4 (r:=⟨0,aA B.log,[],[],default,v.2.2⟩) (sT (w:={ v.2.1 with leader:=B.id }) hv.l.cl v.2.2) rfl (by rw[show(dq { v.2.1 with leader:=B.id } v.2.2).done=w.done from hv.d];rfl) (by decide) rfl (by decide)
theorem Ge:Pls [XE [0,1,2,3,4,6,7,8,9,10,11,12] (.forks 5 (.fork 13 (XE [14] (.fork 15 (XE [16,17,18,19,20,21,22,23] .done) 20 (XE [15,16,17,18,19,21,22,23] .done))) 20 (XE [13,14,15,16,17,18,19,21,22,23] .done)) 13 (XE [14] (.fork 5 (.fork 15 (XE [16,17,18,19,20,21,22,23] .done) 20 (XE [15,16,17,18,19,21,22,23] .done)) 20 (XE [5,15,16,17,18,19,21,22,23] .done))) 20 (XE [5,13,14,15,16,17,18,19,21,22,23] .done)),XE [0,1,2,3,4,5,6] .done,XE [0,1,2,3,5] (.fork 4 (XE [6,7,8,9,10] .done) 6 (XE [4,7,8,9,10] .done)),XE [0,1,2,3,4,6] (.forks 5 (.fork 7 (.fork 8 (XE [9,10,11,12,13,14] .done) 12 (XE [8,9,10,11,13,14] .done)) 12 (XE [7,8,9,10,11,13,14] .done)) 7 (.fork 5 (.fork 8 (XE [9,10,11,12,13,14] .done) 12 (XE [8,9,10,11,13,14] .done)) 12 (XE [5,8,9,10,11,13,14] .done)) 12 (XE [5,7,8,9,10,11,13,14] .done)),XE [0,1,2,3,4,5,6] .done,XE [0,1,2,3,5,6,10] (.forks 4 (XE [7,8] (.forks 9 (.fork 11 (.fork 12 (XE [13,14,15,16,17,18] .done) 16 (XE [12,13,14,15,17,18] .done)) 16 (XE [11,12,13,14,15,17,18] .done)) 11 (.fork 9 (.fork 12 (XE [13,14,15,16,17,18] .done) 16 (XE [12,13,14,15,17,18] .done)) 16 (XE [9,12,13,14,15,17,18] .done)) 16 (XE [9,11,12,13,14,15,17,18] .done))) 11 (.fork 4 (XE [7,8] (.fork 9 (.fork 12 (XE [13,14,15,16,17,18] .done) 16 (XE [12,13,14,15,17,18] .done)) 16 (XE [9,12,13,14,15,17,18] .done))) 16 (XE [4,7,8,9,12,13,14,15,17,18] .done)) 16 (XE [4,7,8,9,11,12,13,14,15,17,18] .done))]:=pls _
structure SG (s:XH):Prop where
 gs:GS s
 g:aS s.tree=true
 v:s.watches.length≤400
theorem Br:∀(X:List ATxn) (p:CSt),okT p.t→aS p.t=true→(∀ x,x∈X→x.wf∧x.path.length≤1048576)→okT (iW X p).1.t∧aS (iW X p).1.t=true
 |[],p,h,hg,_=>⟨h,hg⟩
 | x :: X,p,h,hg,hX=>by
   by_cases he:(ah p.t x).2.2=0
   ·rw[nI he]
    obtain⟨x1,x2⟩:=hX x (St ..);exact Br X (jv (ah p.t x) p x) (uB h x1 x2) (tO he) fun y hy=>hX y (R6 _ hy)
   ·rw[qT he];exact⟨h,hg⟩
theorem GN{s:XH}{n:Int}(h:SG s)(hn:okI n)(h0:(au s n).2.2=0):SG (au s n).1:=by
 have hsub:=commit_sub s n;have hX:∀ x,x∈(s.peer.log.drop s.peer.done.toNat).take (n.toNat-s.peer.done.toNat)→x.wf∧x.path.length≤1048576:=fun x hm=>by have hm2:=Sw (Sf hm);exact⟨h.gs.w.2.2.1.2.2.1.2 x hm2,h.gs.p x hm2⟩
 obtain⟨a,b⟩:=Br _ ⟨s.tree,s.watches,[]⟩ h.gs.t h.g hX;unfold au at h0 hsub ⊢;split at h0
 ·exact absurd h0 (by decide)
 rename_i hb;rw[Rw hb] at hsub ⊢;simp only at h0 hsub ⊢;split at h0
 ·rename_i hq
  rw[Rx hq] at hsub ⊢;simp only at hsub ⊢;obtain⟨_,h1,h2,h3,h4⟩:=h.gs.w;refine⟨⟨⟨X5,h1,⟨h2.1,h2.2.1,h2.2.2.1,hn⟩,a.1,⟨?_,fun y hy=>h4.2 y (hsub.subset hy)⟩⟩,a,h.gs.p⟩,b,RW hsub.length_le h.v⟩;exact RW (R0 32 hsub.length_le) h4.1
 ·exact absurd h0 (by assumption)
theorem NL{s:XH}{x:ATxn}{safe:Bool}(h:SG s)(hx:x.wf)(hp:x.path.length≤1048576)(hl:s.peer.log.length≤1048576)(h0:(bg s x safe).2=0):SG (bg s x safe).1:=by
 have hg:=EW (safe:=safe) h.gs hx hp hl;have hs:=take_sub s x safe;refine⟨hg,?_,RW hs.length_le h.v⟩;unfold bg at h0 ⊢;split at h0
 ·exact absurd h0 (by decide)
 rename_i h1;rw[Rw h1];split at h0
 ·rename_i h2
  rw[Rx h2];exact h.g
 ·exact absurd h0 (by assumption)
structure CmInv (w:AWorld) (hv:List Nat) (F:AWorld×List XJ×Int) (v:Nat×AWorld×List XJ):Prop where
 k:v.1≤hv.length
 f:bn (hv.drop v.1) v.2.1 v.2.2=F
 l:WL v.2.1
 s:∀ i,i<3→SG (v.2.1.s i)
 d:v.2.1.done=w.done
 n:v.2.2.length≤400*v.1
 c:v.2.1.cl=w.cl
 ld:v.2.1.leader=w.leader
theorem vK(l:List Nat)(k:Nat)(h:k<l.length):l.drop k=l.getD k default::l.drop (k+1):=by rw[SU h,Ru,Rv h];rfl
theorem CmInv.stop{w:AWorld}{hv:List Nat}{F:AWorld×List XJ×Int}{v:Nat×AWorld×List XJ}(h:CmInv w hv F v)(hk:v.1<hv.length){j:Nat}(hj:hv.getD v.1 default=j)(hc:(au (v.2.1.s j) (v.2.1.s j).peer.log.length).2.2≠0) :
  F=(v.2.1,v.2.2,(au (v.2.1.s j) (v.2.1.s j).peer.log.length).2.2):=by
 have h2:=h.f;rw[vK hv v.1 hk,hj,bn,Rx hc] at h2;exact h2.symm
theorem CmInv.next{w:AWorld}{hv:List Nat}{F:AWorld×List XJ×Int}{v:Nat×AWorld×List XJ}(h:CmInv w hv F v)(hk:v.1<hv.length){j:Nat}(hj:hv.getD v.1 default=j)(hj3:j<3)(hc:¬ (au (v.2.1.s j) (v.2.1.s j).peer.log.length).2.2≠0) :
  CmInv w hv F (v.1+1,v.2.1.setS j (au (v.2.1.s j) (v.2.1.s j).peer.log.length).1,v.2.2++(au (v.2.1.s j) (v.2.1.s j).peer.log.length).2.1):=by
 obtain⟨h1,h2,⟨e1,e2,e3⟩,h4,h5,h6,h7,h8⟩:=h;rw[vK hv v.1 hk,hj,bn,Rw hc] at h2;have hs:=h4 j hj3;have hn:=fb (v.2.1.s j) (v.2.1.s j).peer.log.length;have hl:=hs.gs.w.2.2.1.2.2.1.1;have hg:=GN hs (n:=((v.2.1.s j).peer.log.length:Int)) (by constructor<;>omega) (Tn.1 hc);have hv4:=hs.v;refine⟨hk,h2,⟨?_,e2,e3⟩,fun i hi=>?_,h5,?_,h7,h8⟩
 ·show(v.2.1.sv.set _ _).length=3;rw[RQ];exact e1
 ·show SG ((v.2.1.setS j _).s i)
  rw[fv (by omega)];split
  ·exact hg
  ·exact h4 i hi
 ·simp only[Ry];omega
theorem CmInv.end{w:AWorld}{hv:List Nat}{F:AWorld×List XJ×Int}{v:Nat×AWorld×List XJ}(h:CmInv w hv F v)(hk:¬ v.1<hv.length):F=(v.2.1,v.2.2,0):=by have h2:=h.f;rw[Wi (by omega)] at h2;exact h2.symm
def gH(i:Nat):List DV:=[.int .i64 (i:Int)]
theorem EA(w:AWorld)(x:ATxn):(cw w).setN (w.done.length+1)=cw { w with done:=w.done++[x] }:=by unfold cw CW.setN;simp only[Ry,Sj];rfl
structure CmOk (w:AWorld) (who:Nat) (x:ATxn) (hv:List Nat):Prop where
 l:WL w
 s:∀ i,i<3→SG (w.s i)
 c:∀ i,i<16→(w.c i).cache.length≤100000∧aE ((w.c i).cache.map AEntry.path)
 d:w.done.length≤100000
 ld:0≤w.leader∧w.leader<3
 h:hv.length≤3∧∀ i,i∈hv→i<3
 wh:who<16
 sn:(w.c who).seen≤x.zxid
 x:x.wf
theorem F8(w:AWorld)(who:Nat)(x:ATxn)(hv:List Nat)(hw:CmOk w who x hv)(wi:Int)(hwi:wi=(who:Int)):ab Tryz.prog (inW w) 109 [.ptr 0 0,I wi,x.av,.d (.sl 1 (hv.map gH))] (d5 (lN w who x hv).1 (lN w who x hv).2):=by
 subst hwi;obtain⟨⟨e1,e2,e3⟩,hs,hc16,hd,⟨hl0,hl3⟩,⟨hh3,hhm⟩,hwho,hsn,hxw⟩:=hw;unfold lN;generalize hF:bn hv w []=F;unfold inW d5;refine zJ Tryz.func109 Tryz.ntmps109 Tryz.results109 ?_;simp only[go_sem];refine zW qw zn X5 (z1 ?_);refine WR (WT 9 3 rfl) ?_;simp only[go_sem];refine WQ (ι:=Nat×AWorld×List XJ) (fun v=>CmInv w hv F v) (fun v=>hv.length-v.1) [0,1,6,8,19,20] (fun v=>[(21,I v.1),(9,.osl 4 3 0 v.2.2.length)]) (fun v=>[.cells (wC (cw v.2.1) 1),.rows 7 (w.done.map ATxn.row),.cells [I x.zxid,I x.op,I x.session,S x.path,S x.data,I x.version,I x.owner],.cells [I 0,I 0,S [],S [],I 0,I 0,I 0,I 0,I 0,I 0,I 0,.d (.sc (.slice none 0 0))],.rows 3 (v.2.2.map XJ.row)]) (0,w,[]) ?_ ?_ ?_
 ·exact⟨RI _,hF,⟨e1,e2,e3⟩,hs,rfl,RE _,rfl,rfl⟩
 ·simp only[go_sem];exact zFr [0,1,2,3,4] X5
 intro v hi;simp only[go_sem];have hvk:=hi.k;have hvn:=hi.n
 by_cases hk4:v.1<hv.length
 ·have hrow:∀ z,List.getD (hv.map gH) v.1 z=gH (hv.getD v.1 default):=fun z=>bJ gH hv v.1 z hk4
  have hj3:=hhm _ (aZ hv v.1 hk4);have hst:=@CmInv.stop _ _ _ _ hi hk4;have hnx:=@CmInv.next _ _ _ _ hi hk4;generalize hv.getD v.1 default=j at hrow hj3 hst hnx;have hg:=hi.s j hj3;have hlj:=hg.gs.w.2.2.1.2.2.1.1;have hco:=AB (v.2.1.s j) (v.2.1.s j).peer.log.length hg.gs.w hg.gs.t hg.gs.p;have hst:=@hst j rfl;have hnx:=@hnx j rfl hj3;have hcf:=fb (v.2.1.s j) (v.2.1.s j).peer.log.length;have hg4:=hg.v;generalize au (v.2.1.s j) (v.2.1.s j).peer.log.length=co at hco hst hnx hcf;obtain⟨c1,cn,ce⟩:=co;simp only at hco hst hnx hcf
  by_cases hce:ce=0
  case neg=>
   have hF2:=hst hce;subst hF2;simp only[ne_eq,hce,RS,SY]
   (refine zW qw (z2 Ge hco) (zx @hrow @gH.eq_1) (zc ?_ (zc ?_ (zc ?_ (z4 ?_ ?_ ?_ ?_))))<;>(repeat with_reducible intro hc))
   all_goals try exact zk3
   all_goals(refine zOp @SH ?_;simp(disch:=omega) only[go_sem,aa,SH];exact WU (r:=noR ce) (rfl) rfl rfl (by rw[hi.d];rfl))
  subst hce;have k1:=vU hi.l.sl hj3
  (refine zW qw (z2 Ge hco) (zx @hrow @gH.eq_1) (zc ?_ (zc ?_ (zc ?_ (z4 ?_ ?_ ?_ ?_))))<;>(repeat with_reducible intro hc))
  all_goals try exact zk3
  all_goals(refine⟨_,hnx (fun h=>h rfl),by simp only;omega,?_⟩;exact zFr [0,1,2,3,6] (zx @List.map_append.{0,0} (zx @List.length_append.{0} @k1)))
 have hF2:=hi.end hk4;subst hF2;simp only[ne_eq,Td,S8];have hdn:=hi.d;have htl:=Eu ((cw v.2.1).setN (w.done.length+1)) (w.done.map ATxn.row++[[.int .i64 x.zxid,.int .i64 x.op,.int .i64 x.session,.str x.path,.str x.data,.int .i64 x.version,.int .i64 x.owner]]) v.2.2 (fun i hi2=>by have:=hc16 i hi2;show(v.2.1.cl.getD i default).cache.length≤_∧aE ((v.2.1.cl.getD i default).cache.map _);rw[hi.c];exact this) (by omega);have htd:((cw v.2.1).setN (w.done.length+1)).told v.2.2 16=cw (dq { v.2.1 with done:=v.2.1.done++[x] } v.2.2):=by rw[show((cw v.2.1).setN (w.done.length+1))=cw { v.2.1 with done:=v.2.1.done++[x] } from by rw[←hdn];exact EA v.2.1 x];exact sT (w:={ v.2.1 with done:=v.2.1.done++[x] }) hi.l.cl v.2.2
 have hcu:(dq { v.2.1 with done:=v.2.1.done++[x] } v.2.2).c who=kz v.2.2 (w.c who):=by rw[uE (by show who<v.2.1.cl.length;rw[hi.c];omega)];show kz v.2.2 (v.2.1.cl.getD who default)=kz v.2.2 (w.cl.getD who default);rw[hi.c]
 have hud:(dq { v.2.1 with done:=v.2.1.done++[x] } v.2.2).done=w.done++[x]:=by show v.2.1.done++[x]=_;rw[hdn]
 have hul:(dq { v.2.1 with done:=v.2.1.done++[x] } v.2.2).leader=w.leader:=hi.ld;have hus:∀ i,i<3→SG ((dq { v.2.1 with done:=v.2.1.done++[x] } v.2.2).s i):=hi.s;have huc:(dq { v.2.1 with done:=v.2.1.done++[x] } v.2.2).cl.length=16:=by show(v.2.1.cl.map _).length=16;rw[RC,hi.l.cl]
 generalize dq { v.2.1 with done:=v.2.1.done++[x] } v.2.2=u at htd hcu hud hul hus huc ⊢;have hle:u.leader=((w.leader.toNat:Nat):Int):=by rw[hul];omega
 have hli:w.leader.toNat<3:=by omega
 have hgl:=hus _ hli;have hco:=hc16 who hwho;have hcl:(u.c who).cache.length≤100000:=by rw[hcu];exact RW (qN _ _ _).length_le hco.1
 have hse:gw (u.c who) x.zxid=(⟨(u.c who).session,x.zxid,(u.c who).cache⟩,0):=by unfold gw;rw[Rw];rw[hcu];show ¬ x.zxid<(w.c who).seen;omega
 have hsc:=Oa (u.c who) x.zxid (by omega);rw[hse] at hsc ⊢;have hgt:=kV (u.s w.leader.toNat).tree x.path hgl.gs.t.1.2.1.1 (aF hgl.g);rw[hle];simp only[ne_eq,Td,S8,SW];generalize aw (u.s w.leader.toNat).tree x.path=gq at hgt ⊢;obtain⟨gn,ge⟩:=gq;simp only at hgt hsc ⊢;have k3:=GQ huc hwho;have hle2:(u.setC who ⟨(u.c who).session,x.zxid,(u.c who).cache⟩).leader=((w.leader.toNat:Nat):Int):=hle;have hle3:(u.setC who ⟨(u.c who).session,x.zxid,(u.c who).cache⟩).s=u.s:=rfl
 (refine zW qs zn @hdn (z1 ?_)<;>(repeat with_reducible intro hc))
 all_goals try exact zk1
 refine WS [0,1,6,8] [(9,.osl 4 3 0 v.2.2.length)] [.cells (wC ((cw v.2.1).setN (w.done.length+1)) 5),.dead,.cells [I x.zxid,I x.op,I x.session,S x.path,S x.data,I x.version,I x.owner],.cells [I 0,I 0,S [],S [],I 0,I 0,I 0,I 0,I 0,I 0,I 0,.d (.sc (.slice none 0 0))],.rows 3 (v.2.2.map XJ.row),.rows 7 (w.done.map ATxn.row++[[.int .i64 x.zxid,.int .i64 x.op,.int .i64 x.session,.str x.path,.str x.data,.int .i64 x.version,.int .i64 x.owner]])] ?_ ?_
 ·refine zW qw (z1 Ge) @hdn (z2 ?_ ?_)
  all_goals try exact zk1
  all_goals exact zFr [0,1,2,3,4,6] X5
 simp only[go_sem];refine zW qs (z1 (ac [0,5,4] htl)) @htd (z1 ?_);refine WS [0,1,6,8] [(9,.osl 4 3 0 v.2.2.length),(15,.ptr 6 0),(16,I 0)] [.cells (wC (cw u) 5),.dead,.cells [I x.zxid,I x.op,I x.session,S x.path,S x.data,I x.version,I x.owner],.cells [I 0,I 0,S [],S [],I 0,I 0,I 0,I 0,I 0,I 0,I 0,.d (.sc (.slice none 0 0))],.rows 3 (v.2.2.map XJ.row),.rows 7 (w.done.map ATxn.row++[[.int .i64 x.zxid,.int .i64 x.op,.int .i64 x.session,.str x.path,.str x.data,.int .i64 x.version,.int .i64 x.owner]]),.cells [I (u.c who).session,I x.zxid,.d (.sl 3 ((u.c who).cache.map AEntry.row))]] ?_ ?_
 ·refine zW qw (z2 Ge hsc) X5 (zc ?_ (zc ?_ (zc ?_ (z4 ?_ ?_ ?_ ?_))))
  all_goals try exact zk1
  all_goals exact zFr [0,1,2,3,4,5,6] X5
 simp only[go_sem]
 (refine zW qs zn X5 (z1 ?_)<;>(repeat with_reducible intro hc))
 all_goals try exact zk1
 refine WS [0,1,6,8] [(9,.osl 4 3 0 v.2.2.length)] [.cells (wC (cw (u.setC who ⟨(u.c who).session,x.zxid,(u.c who).cache⟩)) 5),.dead,.cells [I x.zxid,I x.op,I x.session,S x.path,S x.data,I x.version,I x.owner],.cells [I 0,I 0,S [],S [],I 0,I 0,I 0,I 0,I 0,I 0,I 0,.d (.sc (.slice none 0 0))],.rows 3 (v.2.2.map XJ.row),.rows 7 (w.done.map ATxn.row++[[.int .i64 x.zxid,.int .i64 x.op,.int .i64 x.session,.str x.path,.str x.data,.int .i64 x.version,.int .i64 x.owner]])] ?_ ?_
 ·refine zW qw (z1 Ge) X5 (z1 ?_)
  all_goals try exact zk1
  all_goals exact zFr [0,1,2,3,4,5] @k3
 simp only[go_sem];refine zW qs zn X5 (z1 ?_);refine WS [0,1,6,8] [(9,.osl 4 3 0 v.2.2.length),(17,.ptr 6 0)] [.cells (wC (cw (u.setC who ⟨(u.c who).session,x.zxid,(u.c who).cache⟩)) 5),.dead,.cells [I x.zxid,I x.op,I x.session,S x.path,S x.data,I x.version,I x.owner],.cells [I 0,I 0,S [],S [],I 0,I 0,I 0,I 0,I 0,I 0,I 0,.d (.sc (.slice none 0 0))],.rows 3 (v.2.2.map XJ.row),.rows 7 (w.done.map ATxn.row++[[.int .i64 x.zxid,.int .i64 x.op,.int .i64 x.session,.str x.path,.str x.data,.int .i64 x.version,.int .i64 x.owner]]),.cells [S gn.path,S gn.data,I gn.stat.czxid,I gn.stat.mzxid,I gn.stat.pzxid,I gn.stat.version,I gn.stat.cversion,I gn.stat.owner,I gn.stat.kids]] ?_ ?_
 ·refine zW qw (z2 Ge hgt) (zx @hle2 @hle3) (zc ?_ (zc ?_ (zc ?_ (zc ?_ (zc ?_ (zc ?_ (zc ?_ (zc ?_ (z4 ?_ ?_ ?_ ?_)))))))))
  all_goals try exact zk1
  all_goals exact zFr [0,1,2,3,4,5,6] @k3
 simp only[go_sem];refine zW qw zn X5 (z1 ?_);refine zOp X5 ?_;simp(disch:=omega) only[go_sem,aa];exact Xa 5 4 (r:=⟨0,x.zxid,x.path,[],gn.stat,v.2.2⟩) rfl rfl (by rw[show(u.setC who ⟨(u.c who).session,x.zxid,(u.c who).cache⟩).done=w.done++[x] from hud,Sb];rfl) (by decide) rfl (by decide)
theorem IR:Pls [XE [0,1,2,3,4,5,6,7,8,9] .done,XE [0,1,2,4] (.forks 3 (.fork 5 (.fork 6 (XE [7,8,9,10,11,12] .done) 10 (XE [6,7,8,9,11,12] .done)) 10 (XE [5,6,7,8,9,11,12] .done)) 5 (.fork 3 (.fork 6 (XE [7,8,9,10,11,12] .done) 10 (XE [6,7,8,9,11,12] .done)) 10 (XE [3,6,7,8,9,11,12] .done)) 10 (XE [3,5,6,7,8,9,11,12] .done)),XE [0,1,2,3,4,5,6,7,8,9,11,17,18] (.fork 10 (XE [12,13,14,15,16,19,20] .done) 12 (XE [10,13,14,15,16,19,20] .done)),XE [0,1,2,3,4,7] (.forks 5 (.fork 6 (.fork 8 (XE [9,10,11,12,13,14] .done) 12 (XE [8,9,10,11,13,14] .done)) 12 (XE [6,8,9,10,11,13,14] .done)) 6 (.fork 5 (.fork 8 (XE [9,10,11,12,13,14] .done) 12 (XE [8,9,10,11,13,14] .done)) 12 (XE [5,8,9,10,11,13,14] .done)) 12 (XE [5,6,8,9,10,11,13,14] .done)),XE [0,1,2,3,4,5,6] .done]:=pls _
attribute [go_sem] Tryz.ntmps107 Tryz.results107 Tryz.ntmps108 Tryz.results108
theorem M3(a:Int):bits .and .i64 a 1=a%2:=by show IntKind.i64.wrap ((BitVec.ofInt 64 a &&& BitVec.ofInt 64 ((1:Nat):Int)).toNat:Int)=_;rw[BitVec.toNat_and,kF 1 (by decide),show(1:Nat)=2^1-1 from rfl,Vn,BitVec.toNat_ofInt,Ur];omega
theorem IM(n:Int)(i:Nat):decide (bits .and .i64 (n/2^i) 1=0)=!oP n i:=by rw[M3];unfold oP;rw[TW,SN,RB,RT];omega
theorem wT{n:Nat}(h:n<1000):IntKind.u64.wrap (n:Int)=(n:Int):=by rw[IntKind.wrap_u64];omega
theorem OJ(v:CW)(i:Nat)(b:Bool)(h:v.f i=b):v.setF i b=v:=by
 unfold CW.setF
 have:(fun j=>if j=i then b else v.f j)=v.f:=funext fun j=>by
  by_cases e:j=i
  ·subst e;rw[Rx rfl,h]
  ·rw[Rw e]
 rw[this]
theorem xL(z:Int):okI (jw z).1:=by
 unfold jw;split
 ·rename_i h
  unfold bd at h;split
  ·exact⟨by show(-9223372036854775808:Int)≤0;decide,by show(0:Int)≤9223372036854775807;decide⟩
  ·constructor
   ·show(-9223372036854775808:Int)≤_;simp only;omega
   ·show _≤(9223372036854775807:Int);simp only;omega
 ·exact⟨by show(-9223372036854775808:Int)≤0;decide,by show(0:Int)≤9223372036854775807;decide⟩
theorem wc(p:XP):okI (cD p).1:=by
 unfold cD;split
 ·split
  ·exact⟨by show(-9223372036854775808:Int)≤0;decide,by show(0:Int)≤9223372036854775807;decide⟩
  ·exact xL _
 ·exact xL _
structure XX (w:AWorld) (x:ATxn) (lost slow:Int) (F:AWorld×List Nat×Int) (v:Nat×AWorld×List Nat):Prop where
 k:v.1≤3
 f:bW x w.leader lost slow (([0,1,2]:List Nat).drop v.1) v.2.1 v.2.2=F
 l:WL v.2.1
 s:∀ i,v.1≤i→i<3→v.2.1.s i=w.s i
 fl:∀ i,v.1≤i→i<3→v.2.1.f i=w.f i
 ld:v.2.1.leader=w.leader
 d:v.2.1.done=w.done
 c:v.2.1.cl=w.cl
 sg:∀ i,i<3→SG (v.2.1.s i)
 h:v.2.2.length≤v.1∧∀ i,i∈v.2.2→i<3
section
variable {w:AWorld} {x:ATxn} {lost slow:Int} {F:AWorld×List Nat×Int} {v:Nat×AWorld×List Nat}
theorem XX.skip(h:XX w x lost slow F v)(hk:v.1<3)(hf:v.2.1.f v.1=false):XX w x lost slow F (v.1+1,v.2):=by obtain⟨h1,h2,h3,h4,h5,h6,h7,h8,h9,h10,h11⟩:=h;rw[sh hk,bW,Rx hf] at h2;exact⟨hk,h2,h3,fun i a b=>h4 i (by simp only at a;omega) b,fun i a b=>h5 i (by simp only at a;omega) b,h6,h7,h8,h9,by simp only;omega,h11⟩
theorem XX.gone(h:XX w x lost slow F v)(hk:v.1<3)(hf:¬ v.2.1.f v.1=false)(hb:¬ w.leader=(v.1:Int)∧oP lost v.1=true):XX w x lost slow F (v.1+1,v.2.1.setF v.1 false,v.2.2):=by obtain⟨h1,h2,⟨e1,e2,e3⟩,h4,h5,h6,h7,h8,h9,h10,h11⟩:=h;rw[sh hk,bW,Rw hf,Rx hb] at h2;refine⟨hk,h2,⟨e1,by show(v.2.1.fl.set _ _).length=3;rw[RQ];exact e2,e3⟩,fun i a b=>h4 i (by simp only at a;omega) b,fun i a b=>?_,h6,h7,h8,h9,by simp only;omega,h11⟩;simp only at a;show(v.2.1.setF v.1 false).f i=w.f i;rw[qA (by omega),Rw (by omega)];exact h5 i (by omega) b
theorem XX.stop(h:XX w x lost slow F v)(hk:v.1<3)(hf:¬ v.2.1.f v.1=false)(hb:¬ (¬ w.leader=(v.1:Int)∧oP lost v.1=true)){sf:Bool}(hsf:(decide (w.leader=(v.1:Int))||!oP slow v.1)=sf)(ht:(bg (w.s v.1) x sf).2≠0):F=(v.2.1,v.2.2,(bg (w.s v.1) x sf).2):=by have h2:=h.f;have hs:=h.s v.1 (RE _) hk;rw[sh hk,bW,hs,Rw hf,Rw hb,hsf,Rx ht] at h2;exact h2.symm
theorem XX.next(h:XX w x lost slow F v)(hk:v.1<3)(hf:¬ v.2.1.f v.1=false)(hb:¬ (¬ w.leader=(v.1:Int)∧oP lost v.1=true)){sf:Bool}(hsf:(decide (w.leader=(v.1:Int))||!oP slow v.1)=sf)(ht:¬ (bg (w.s v.1) x sf).2≠0)
  (hx:x.wf) (hp:x.path.length≤1048576) (hl:(w.s v.1).peer.log.length≤1048576):XX w x lost slow F (v.1+1,v.2.1.setS v.1 (bg (w.s v.1) x sf).1,if sf=true then v.2.2++[v.1] else v.2.2):=by
 obtain⟨h1,h2,⟨e1,e2,e3⟩,h4,h5,h6,h7,h8,h9,h10,h11⟩:=h;have hs:=h4 v.1 (RE _) hk;rw[sh hk,bW,hs,Rw hf,Rw hb,hsf,Rw ht] at h2;have hg:=h9 v.1 hk;rw[hs] at hg;have hg2:=NL (safe:=sf) hg hx hp hl (Tn.1 ht);refine⟨hk,h2,⟨by show(v.2.1.sv.set _ _).length=3;rw[RQ];exact e1,e2,e3⟩,fun i a b=>?_,fun i a b=>h5 i (by simp only at a;omega) b,h6,h7,h8,fun i hi=>?_,?_,?_⟩
 ·simp only at a
  show(v.2.1.setS v.1 _).s i=w.s i;rw[fv (by omega),Rw (by omega)];exact h4 i (by omega) b
 ·show SG ((v.2.1.setS v.1 _).s i)
  rw[fv (by omega)];split
  ·exact hg2
  ·exact h9 i hi
 ·simp only
  split
  ·rw[Ry,Sj];omega
  ·omega
 ·simp only
  intro i hi;split at hi
  ·rcases Sh.1 hi with hi|hi
   ·exact h11 i hi
   ·rw[SM.1 hi];exact hk
  ·exact h11 i hi
theorem XX.end(h:XX w x lost slow F v)(hk:¬ v.1<3):F=(v.2.1,v.2.2,0):=by
 have h2:=h.f;have hk3:v.1=3:=by have:=h.k;omega
 rw[hk3] at h2;exact h2.symm
end
structure WrOk (w:AWorld):Prop where
 l:WL w
 s:∀ i,i<3→SG (w.s i)
 n:∀ i,i<3→(w.s i).peer.log.length≤100000
 c:∀ i,i<16→(w.c i).cache.length≤100000∧aE ((w.c i).cache.map AEntry.path)
 cs:∀ i,i<16→okI (w.c i).session
 d:w.done.length≤100000
 ld:w.leader<3
 sn:∀ i,i<16→0≤w.leader→(w.c i).seen≤(cD (w.s w.leader.toNat).peer).1∨(cD (w.s w.leader.toNat).peer).2≠0
theorem Ja(w:AWorld)(d:XO)(hw:WrOk w)(hdw:d.wf)(hdp:d.request.path.length≤1048576):ab Tryz.prog (inW w) 55 [.ptr 0 0,d.av] (d5 (dx w d).1 (dx w d).2):=by
 obtain⟨⟨e1,e2,e3⟩,hs,hn,hc16,hcz,hdn,hl3,hsn⟩:=hw;obtain⟨kind,client,server,rq,lost,slow,keep,watch⟩:=d;obtain⟨_,hcI,_,hrq,hlo,hsl,_,_⟩:=hdw;simp only at hcI hrq hlo hsl hdp;unfold dx;simp only
 by_cases h1:client<0∨16≤client
 ·rw[Rx h1]
  have hcb:(decide (client<0)||decide (16≤client))=true:=by rcases h1 with h|h<;>simp[h]
  unfold inW d5;refine zJ Tryz.func55 Tryz.ntmps55 Tryz.results55 ?_;simp only[go_sem]
  (refine zW qs zn @hcb (z1 ?_)<;>(repeat with_reducible intro hc))
  all_goals try exact zk3
  all_goals(refine zOp X5 ?_;simp(disch:=omega) only[go_sem,aa];exact WU (r:=noR 3) (rfl) rfl rfl rfl)
 rw[Rw h1];obtain⟨cl,rfl⟩:∃ cl:Nat,client=(cl:Int):=⟨client.toNat,by omega⟩;have hcl:cl<16:=by omega
 have hcb:(decide ((cl:Int)<0)||decide (16≤(cl:Int)))=false:=by rw[RM (by omega),RM (by omega)];rfl
 by_cases h2:w.leader<0
 ·rw[Rx h2]
  have hlb:decide (w.leader<0)=true:=decide_eq_true h2;unfold inW d5;refine zJ Tryz.func55 Tryz.ntmps55 Tryz.results55 ?_;simp only[go_sem]
  (refine zW qs zn (zx @hcb @hlb) (z1 ?_)<;>(repeat with_reducible intro hc))
  all_goals try exact zk3
  all_goals(refine zOp X5 ?_;simp(disch:=omega) only[go_sem,aa];exact WU (r:=noR 14) (rfl) rfl rfl rfl)
 rw[Rw h2];obtain⟨li,hle⟩:∃ li:Nat,w.leader=(li:Int):=⟨w.leader.toNat,by omega⟩;have hli:li<3:=by omega
 have hgl:=hs li hli;have hnx:=D7 (w.s li).peer hgl.gs.w.2.2.1.2.2.1.1;have hnk:=wc (w.s li).peer;have hsn2:=hsn cl hcl (by omega);have hlb:decide ((li:Int)<0)=false:=RM (by omega);unfold kC;rw[hle] at hsn2 ⊢;simp only[SW] at hsn2 ⊢;generalize cD (w.s li).peer=q at hnx hnk hsn2 ⊢;obtain⟨z,ze⟩:=q;simp only at hnx hnk hsn2 ⊢;unfold inW d5;refine zJ Tryz.func55 Tryz.ntmps55 Tryz.results55 ?_;simp only[go_sem]
 (refine zW qs zn (zx @hcb (zx @hle @hlb)) (z1 ?_)<;>(repeat with_reducible intro hc))
 all_goals try exact zk3
 refine WS [0,3,4] [(5,.ptr 4 0)] [.cells (wC (cw w) 1),.rows 7 (w.done.map ATxn.row),.cells [I kind,I (cl:Int),I server,I rq.op,I rq.session,S rq.path,S rq.data,I rq.version,I rq.flags,I lost,I slow,I keep,B watch],.cells [I 0,I 0,S [],S [],I 0,I 0,I 0,I 0,I 0,I 0,I 0,.d (.sc (.slice none 0 0))],.cells [I rq.op,I (w.c cl).session,S rq.path,S rq.data,I rq.version,I rq.flags]] ?_ ?_
 ·(refine zW qw (z1 IR) X5 (z1 ?_)<;>(repeat with_reducible intro hc))
  all_goals try exact zk3
  all_goals exact zFr [0,1,2,3,4] X5
 simp only[go_sem]
 (refine zW qs zn X5 (z1 ?_)<;>(repeat with_reducible intro hc))
 refine WS [0,3,4,5] [(6,.ptr 0 (li*10))] [.cells (wC (cw w) 1),.rows 7 (w.done.map ATxn.row),.cells [I kind,I (cl:Int),I server,I rq.op,I rq.session,S rq.path,S rq.data,I rq.version,I rq.flags,I lost,I slow,I keep,B watch],.cells [I 0,I 0,S [],S [],I 0,I 0,I 0,I 0,I 0,I 0,I 0,.d (.sc (.slice none 0 0))],.cells [I rq.op,I (w.c cl).session,S rq.path,S rq.data,I rq.version,I rq.flags]] ?_ ?_
 ·(refine zW qw zn @hle (z1 ?_)<;>(repeat with_reducible intro hc))
  all_goals try exact zk3
  all_goals exact zFr [0,1,2,3,4] X5
 simp only[go_sem]
 by_cases hz:ze=0
 case neg=>
  rw[Rx hz]
  (refine zW qs (z1 hnx) X5 (z1 ?_)<;>(repeat with_reducible intro hc))
  all_goals try exact zk3
  all_goals(refine zOp X5 ?_;simp(disch:=omega) only[go_sem,aa];exact WU (r:=noR ze) (rfl) rfl rfl rfl)
 subst hz;rw[Rw (fun h=>h rfl)];have hpr:=Ou (w.s li).tree z ⟨rq.op,(w.c cl).session,rq.path,rq.data,rq.version,rq.flags⟩ hgl.gs.t ⟨hrq.1,hcz cl hcl,hrq.2.2.1,hrq.2.2.2.1,hrq.2.2.2.2.1,hrq.2.2.2.2.2⟩ hdp hnk;have hpk:=@sW (w.s li).tree z ⟨rq.op,(w.c cl).session,rq.path,rq.data,rq.version,rq.flags⟩;generalize bA (w.s li).tree z ⟨rq.op,(w.c cl).session,rq.path,rq.data,rq.version,rq.flags⟩=p at hpr hpk ⊢;obtain⟨x,pe⟩:=p;simp only at hpr hpk ⊢
 (refine zW qs (z1 hnx) X5 (z1 ?_)<;>(repeat with_reducible intro hc))
 all_goals try exact zk3
 refine WS [0,3,4] [(8,I pe),(9,.ptr 5 0)] [.cells (wC (cw w) 1),.rows 7 (w.done.map ATxn.row),.cells [I kind,I (cl:Int),I server,I rq.op,I rq.session,S rq.path,S rq.data,I rq.version,I rq.flags,I lost,I slow,I keep,B watch],.cells [I 0,I 0,S [],S [],I 0,I 0,I 0,I 0,I 0,I 0,I 0,.d (.sc (.slice none 0 0))],.cells [I rq.op,I (w.c cl).session,S rq.path,S rq.data,I rq.version,I rq.flags],.cells [I x.zxid,I x.op,I x.session,S x.path,S x.data,I x.version,I x.owner]] ?_ ?_
 ·(refine zW qw (z2 IR hpr) X5 (zc ?_ (zc ?_ (zc ?_ (z4 ?_ ?_ ?_ ?_))))<;>(repeat with_reducible intro hc))
  all_goals try exact zk3
  all_goals exact zFr [0,1,2,3,4,5] X5
 simp only[go_sem]
 by_cases hz:pe=0
 case neg=>
  rw[Rx hz]
  (refine zW qs zn X5 (z1 ?_)<;>(repeat with_reducible intro hc))
  all_goals try exact zk3
  all_goals(refine zOp X5 ?_;simp(disch:=omega) only[go_sem,aa];exact WU (r:=noR pe) (rfl) rfl rfl rfl)
 subst hz;rw[Rw (fun h=>h rfl)];obtain⟨hxz,hxa⟩:=hpk rfl;obtain⟨hxw,hxp⟩:=CF (yk hxa).1;have hsx:(w.c cl).seen≤x.zxid:=by rcases hsn2 with h|h<;>omega
 clear hpk hpr hnx hsn hsn2;rw[←hle];generalize hF:bW x w.leader lost slow [0,1,2] w []=F
 (refine zW qs zn X5 (z1 ?_)<;>(repeat with_reducible intro hc))
 all_goals try exact zk3
 refine WR (WT 10 1 rfl) ?_;simp only[go_sem];refine WQ (ι:=Nat×AWorld×List Nat) (fun v=>XX w x lost slow F v) (fun v=>3-v.1) [0,3,4,9] (fun v=>[(75,I v.1),(10,.osl 6 1 0 v.2.2.length)]) (fun v=>[.cells (wC (cw v.2.1) 1),.rows 7 (w.done.map ATxn.row),.cells [I kind,I (cl:Int),I server,I rq.op,I rq.session,S rq.path,S rq.data,I rq.version,I rq.flags,I lost,I slow,I keep,B watch],.cells [I 0,I 0,S [],S [],I 0,I 0,I 0,I 0,I 0,I 0,I 0,.d (.sc (.slice none 0 0))],.cells [I rq.op,I (w.c cl).session,S rq.path,S rq.data,I rq.version,I rq.flags],.cells [I x.zxid,I x.op,I x.session,S x.path,S x.data,I x.version,I x.owner],.rows 1 (v.2.2.map gH)]) (0,w,[]) ?_ ?_ ?_
 ·exact⟨RI _,hF,⟨e1,e2,e3⟩,fun i _ _=>rfl,fun i _ _=>rfl,rfl,rfl,rfl,hs,RE _,fun i h=>by cases h⟩
 ·simp only[go_sem];exact zFr [0,1,2,3,4,5,6] X5
 intro v hv;simp only[go_sem];have hvk:=hv.k;have hvld:=hv.ld;obtain⟨hh1,hh2⟩:=hv.h
 by_cases hk4:v.1<3
 ·have hs0:=hv.s v.1 (RE _) hk4
  by_cases hf:v.2.1.f v.1=false
  ·have hsk:=hv.skip hk4 hf
   (refine zW qs zn @hf (z1 ?_)<;>(repeat with_reducible intro hc))
   all_goals try exact zk3
   refine⟨(v.1+1,v.2),hsk,by simp only;omega,?_⟩;exact zFr [0,1,2,3,4,5,6] X5
  have hft:v.2.1.f v.1=true:=by simpa using hf
  have hbe:=IM lost v.1;have hse:=IM slow v.1;have hwu:=wT (n:=v.1) (by omega)
  by_cases hb:¬ w.leader=(v.1:Int)∧oP lost v.1=true
  ·have hls:=hv.gone hk4 hf hb
   have k1:=Qc hv.l.fl hk4;have hlf:decide ((v.1:Int)=w.leader)=false:=RM (fun h=>hb.1 h.symm)
   (refine zW qs zn @hft (z1 ?_)<;>(repeat with_reducible intro hc))
   all_goals try exact zk3
   refine WS [0,3,4,9,10,11,75] [] [.cells (wC (cw (v.2.1.setF v.1 false)) 1),.rows 7 (w.done.map ATxn.row),.cells [I kind,I (cl:Int),I server,I rq.op,I rq.session,S rq.path,S rq.data,I rq.version,I rq.flags,I lost,I slow,I keep,B watch],.cells [I 0,I 0,S [],S [],I 0,I 0,I 0,I 0,I 0,I 0,I 0,.d (.sc (.slice none 0 0))],.cells [I rq.op,I (w.c cl).session,S rq.path,S rq.data,I rq.version,I rq.flags],.cells [I x.zxid,I x.op,I x.session,S x.path,S x.data,I x.version,I x.owner],.rows 1 (v.2.2.map gH)] ?_ ?_
   ·(refine zW qw (z1 IR) (zx @hvld (zx @hlf (zx @hwu (zx @hbe @hb.2)))) (z2 ?_ ?_)<;>(repeat with_reducible intro hc))
    all_goals try exact zk3
    all_goals exact zFr [0,1,2,3,4,5,6] @k1
   simp only[go_sem];have hff:(v.2.1.setF v.1 false).f v.1=false:=by rw[qA (by have:=hv.l.fl;omega),Rx rfl]
   (refine zW qs zn @hff (z1 ?_)<;>(repeat with_reducible intro hc))
   all_goals try exact zk3
   refine⟨(v.1+1,v.2.1.setF v.1 false,v.2.2),hls,by simp only;omega,?_⟩;exact zFr [0,1,2,3,4,5,6] X5
  have hgo:(bif decide ((v.1:Int)=w.leader) then true else !oP lost v.1)=true:=by
   by_cases e:(v.1:Int)=w.leader
   ·rw[decide_eq_true e];rfl
   ·rw[RM e]
    have:oP lost v.1=false:=by
     by_cases hq:oP lost v.1=true
     ·exact absurd ⟨fun h=>e h.symm,hq⟩ hb
     ·simpa using hq
    rw[this];rfl
  have k1:=OJ (cw v.2.1) v.1 true hft;generalize hsf:(decide (w.leader=(v.1:Int))||!oP slow v.1)=sf;have hsf2:(bif decide ((v.1:Int)=w.leader) then true else !oP slow v.1)=sf:=by rw[←hsf,show decide ((v.1:Int)=w.leader)=decide (w.leader=(v.1:Int)) from V7.2 ⟨Eq.symm,Eq.symm⟩];cases decide (w.leader=(v.1:Int))<;>rfl
  have hgk:=hs v.1 hk4;have hnk4:=hn v.1 hk4;have htk:=D3 (w.s v.1) x sf hgk.gs.w hxw (by omega);have hst:=hv.stop hk4 hf hb hsf;have hnx:=fun a=>hv.next hk4 hf hb hsf a hxw (by omega) (by omega)
  (refine zW qs zn @hft (z1 ?_)<;>(repeat with_reducible intro hc))
  all_goals try exact zk3
  refine WS [0,3,4,9,10,11,75] [] [.cells (wC (cw v.2.1) 1),.rows 7 (w.done.map ATxn.row),.cells [I kind,I (cl:Int),I server,I rq.op,I rq.session,S rq.path,S rq.data,I rq.version,I rq.flags,I lost,I slow,I keep,B watch],.cells [I 0,I 0,S [],S [],I 0,I 0,I 0,I 0,I 0,I 0,I 0,.d (.sc (.slice none 0 0))],.cells [I rq.op,I (w.c cl).session,S rq.path,S rq.data,I rq.version,I rq.flags],.cells [I x.zxid,I x.op,I x.session,S x.path,S x.data,I x.version,I x.owner],.rows 1 (v.2.2.map gH)] ?_ ?_
  ·cases hdb:decide ((v.1:Int)=w.leader)
   ·have hbl:oP lost v.1=false:=by
     rw[hdb] at hgo;simpa using hgo
    (refine zW qw (z1 IR) (zx @hvld (zx @hwu (zx @hbe (zx @hdb @hbl)))) (z2 ?_ ?_)<;>(repeat with_reducible intro hc))
    all_goals try exact zk1
    all_goals exact zFr [0,1,2,3,4,5,6] @k1
   ·(refine zW qw (z1 IR) (zx @hvld (zx @hwu (zx @hbe @hdb))) (z2 ?_ ?_)<;>(repeat with_reducible intro hc))
    all_goals try exact zk1
    all_goals exact zFr [0,1,2,3,4,5,6] @k1
  simp only[go_sem];generalize bg (w.s v.1) x sf=tk at htk hst hnx;obtain⟨t1,te⟩:=tk;simp only at htk hst hnx;cases hdb:decide ((v.1:Int)=w.leader)
  all_goals(
   rw[hdb] at hsf2;simp only[Vl,UP] at hsf2
   (repeat' first
|(with_reducible refine AR.f ?_)
|(with_reducible refine AWP.cond rfl ?_ ?_<;>intro hc<;>(try simp only[hcs,RN,RY,RZ] at hc))
|((first|((first|(with_reducible first|refine zR ?_));intro K hK))<;>(try simp(disch:=omega) only[go_sem,aa,hft,hvld,hwu,hse,hdb])<;>(repeat' with_reducible refine Sg ?_ ?_)<;>(try(with_reducible refine hK _ ?_;clear hK K)))
|omega)
   all_goals try exact zk3
   refine WS [0,3,4,9,10,11,12,75] [(13,.ptr 7 0),(14,I te)] [.cells (wC (cw v.2.1) 1),.rows 7 (w.done.map ATxn.row),.cells [I kind,I (cl:Int),I server,I rq.op,I rq.session,S rq.path,S rq.data,I rq.version,I rq.flags,I lost,I slow,I keep,B watch],.cells [I 0,I 0,S [],S [],I 0,I 0,I 0,I 0,I 0,I 0,I 0,.d (.sc (.slice none 0 0))],.cells [I rq.op,I (w.c cl).session,S rq.path,S rq.data,I rq.version,I rq.flags],.cells [I x.zxid,I x.op,I x.session,S x.path,S x.data,I x.version,I x.owner],.rows 1 (v.2.2.map gH),.cells [B t1.up,.d (.sl 3 (t1.disk.files.map AFile.row)),I t1.peer.id,I t1.peer.epoch,.d (.sl 7 (t1.peer.log.map ATxn.row)),I t1.peer.done,I t1.tree.zxid,.d (.sl 9 (t1.tree.nodes.map XG.row)),.d (.sl 1 (t1.tree.sessions.map a8)),.d (.sl 3 (t1.watches.map AWatch.row))]] ?_ ?_
   ·(repeat' first
|(with_reducible refine AR.f ?_)
|(with_reducible refine AWP.cond rfl ?_ ?_<;>intro hc<;>(try simp only[hcs,RN,RY,RZ] at hc))
|((first|((first|refine zP ((XE [0,1,2,3,4,5,6,7,8,9] .done)) ?_|refine zP ((XE [0,1,2,4] (.forks 3 (.fork 5 (.fork 6 (XE [7,8,9,10,11,12] .done) 10 (XE [6,7,8,9,11,12] .done)) 10 (XE [5,6,7,8,9,11,12] .done)) 5 (.fork 3 (.fork 6 (XE [7,8,9,10,11,12] .done) 10 (XE [6,7,8,9,11,12] .done)) 10 (XE [3,6,7,8,9,11,12] .done)) 10 (XE [3,5,6,7,8,9,11,12] .done)))) ?_|refine zP ((XE [0,1,2,3,4,5,6,7,8,9,11,17,18] (.fork 10 (XE [12,13,14,15,16,19,20] .done) 12 (XE [10,13,14,15,16,19,20] .done)))) ?_|refine zP ((XE [0,1,2,3,4,7] (.forks 5 (.fork 6 (.fork 8 (XE [9,10,11,12,13,14] .done) 12 (XE [8,9,10,11,13,14] .done)) 12 (XE [6,8,9,10,11,13,14] .done)) 6 (.fork 5 (.fork 8 (XE [9,10,11,12,13,14] .done) 12 (XE [8,9,10,11,13,14] .done)) 12 (XE [5,8,9,10,11,13,14] .done)) 12 (XE [5,6,8,9,10,11,13,14] .done)))) ?_|refine zP ((XE [0,1,2,3,4,5,6] .done)) ?_|(with_reducible first|refine zR ?_));intro K hK)|((first|refine zA htk ?_ ?_ ?_ ?_ ?_);(focus exact rfl);(focus exact rfl);iterate 2 (focus((try simp(disch:=omega) only[go_sem,aa,hs0])<;>(try omega)<;>fail)))|((first|refine zN htk rfl ?_ ?_|refine zX htk rfl ?_ ?_|refine zY htk ?_ ?_);(focus((try simp(disch:=omega) only[go_sem,aa,hs0])<;>(try omega)<;>fail))))<;>(try simp(disch:=omega) only[go_sem,aa,hs0])<;>(repeat' with_reducible refine Sg ?_ ?_)<;>(try(with_reducible refine hK _ ?_;clear hK K)))
|omega)
    all_goals try exact zk1
    all_goals(refine zV [0,1,2,3,4,5,6,7] rfl rfl rfl rfl ?_ ?_<;>simp(disch:=omega) only[go_sem,aa,Si]<;>(try rfl))
    all_goals exact congrArg (fun b=>AV.d (DV.bool b)) hsf2.symm
   simp only[go_sem]
   by_cases hte:te=0
   case neg=>
    have hF2:=hst hte;subst hF2;simp only[ne_eq,hte,RS,SY]
    (repeat' first
|(with_reducible refine AR.f ?_)
|(with_reducible refine AWP.cond rfl ?_ ?_<;>intro hc<;>(try simp only[hcs,RN,RY,RZ] at hc))
|((first|((first|(with_reducible first|refine zR ?_));intro K hK))<;>(try simp(disch:=omega) only[go_sem,aa])<;>(repeat' with_reducible refine Sg ?_ ?_)<;>(try(with_reducible refine hK _ ?_;clear hK K)))
|omega)
    all_goals try exact zk1
    all_goals(refine zOp @SH ?_;simp(disch:=omega) only[go_sem,aa,SH];exact WU (r:=noR te) (rfl) rfl rfl (by rw[hv.d];rfl))
   subst hte
   (repeat' first
|(with_reducible refine AR.f ?_)
|(with_reducible refine AWP.cond rfl ?_ ?_<;>intro hc<;>(try simp only[hcs,RN,RY,RZ] at hc))
|((first|((first|(with_reducible first|refine zR ?_));intro K hK))<;>(try simp(disch:=omega) only[go_sem,aa])<;>(repeat' with_reducible refine Sg ?_ ?_)<;>(try(with_reducible refine hK _ ?_;clear hK K)))
|omega)
   all_goals try exact zk1
   have k2:=vU hv.l.sl hk4;refine WS [0,3,4,9,10,11,12,75] [] [.cells (wC (cw (v.2.1.setS v.1 t1)) 1),.rows 7 (w.done.map ATxn.row),.cells [I kind,I (cl:Int),I server,I rq.op,I rq.session,S rq.path,S rq.data,I rq.version,I rq.flags,I lost,I slow,I keep,B watch],.cells [I 0,I 0,S [],S [],I 0,I 0,I 0,I 0,I 0,I 0,I 0,.d (.sc (.slice none 0 0))],.cells [I rq.op,I (w.c cl).session,S rq.path,S rq.data,I rq.version,I rq.flags],.cells [I x.zxid,I x.op,I x.session,S x.path,S x.data,I x.version,I x.owner],.rows 1 (v.2.2.map gH)] ?_ ?_
   ·(repeat' first
|(with_reducible refine AR.f ?_)
|(with_reducible refine AWP.cond rfl ?_ ?_<;>intro hc<;>(try simp only[hcs,RN,RY,RZ] at hc))
|((first|((first|refine zP ((XE [0,1,2,3,4,5,6,7,8,9] .done)) ?_|refine zP ((XE [0,1,2,4] (.forks 3 (.fork 5 (.fork 6 (XE [7,8,9,10,11,12] .done) 10 (XE [6,7,8,9,11,12] .done)) 10 (XE [5,6,7,8,9,11,12] .done)) 5 (.fork 3 (.fork 6 (XE [7,8,9,10,11,12] .done) 10 (XE [6,7,8,9,11,12] .done)) 10 (XE [3,6,7,8,9,11,12] .done)) 10 (XE [3,5,6,7,8,9,11,12] .done)))) ?_|refine zP ((XE [0,1,2,3,4,5,6,7,8,9,11,17,18] (.fork 10 (XE [12,13,14,15,16,19,20] .done) 12 (XE [10,13,14,15,16,19,20] .done)))) ?_|refine zP ((XE [0,1,2,3,4,7] (.forks 5 (.fork 6 (.fork 8 (XE [9,10,11,12,13,14] .done) 12 (XE [8,9,10,11,13,14] .done)) 12 (XE [6,8,9,10,11,13,14] .done)) 6 (.fork 5 (.fork 8 (XE [9,10,11,12,13,14] .done) 12 (XE [8,9,10,11,13,14] .done)) 12 (XE [5,8,9,10,11,13,14] .done)) 12 (XE [5,6,8,9,10,11,13,14] .done)))) ?_|refine zP ((XE [0,1,2,3,4,5,6] .done)) ?_|(with_reducible first|refine zR ?_));intro K hK))<;>(try simp(disch:=omega) only[go_sem,aa])<;>(repeat' with_reducible refine Sg ?_ ?_)<;>(try(with_reducible refine hK _ ?_;clear hK K)))
|omega)
    all_goals try exact zk1
    all_goals exact zFr [0,1,2,3,4,5,6] @k2
   simp only[go_sem];have hnx:=hnx (fun h=>h rfl);cases sf
   ·first
    |contradiction
    |skip
    all_goals(refine zW qs zn @hsf2 (z1 ?_)<;>(repeat with_reducible intro hc))
    all_goals try exact zk2
    all_goals refine⟨(v.1+1,v.2.1.setS v.1 t1,v.2.2),hnx,by simp only;omega,?_⟩
    all_goals exact zFr [0,1,2,3,4,5,6] X5
   ·(repeat' first
|(with_reducible refine AR.f ?_)
|(with_reducible refine AWP.cond rfl ?_ ?_<;>intro hc<;>(try simp only[hcs,RN,RY,RZ] at hc))
|((first|((first|(with_reducible first|refine zR ?_));intro K hK))<;>(try simp(disch:=omega) only[go_sem,aa,hsf2])<;>(repeat' with_reducible refine Sg ?_ ?_)<;>(try(with_reducible refine hK _ ?_;clear hK K)))
|omega)
    all_goals try exact zk1
    refine⟨(v.1+1,v.2.1.setS v.1 t1,v.2.2++[v.1]),hnx,by simp only;omega,?_⟩
    exact zFr [0,1,2,3,4,5,8] (zx @List.map_append.{0,0} (zx @List.map_cons.{0,0} (zx @List.map_nil.{0,0} (zx @gH.eq_1 (zx @List.length_append.{0} (zx @List.length_cons.{0} @List.length_nil.{0})))))))
 have hF2:=hv.end hk4;subst hF2;simp only[ne_eq,Td,S8]
 by_cases hlt:v.2.2.length<2
 ·rw[Rx hlt]
  (refine zW qs (z2 (ic Tryz.func107) (ic Tryz.func108)) X5 (z1 ?_)<;>(repeat with_reducible intro hc))
  all_goals try exact zk3
  all_goals(refine zOp @SH ?_;simp(disch:=omega) only[go_sem,aa,SH];exact WU (r:=⟨16,x.zxid,[],[],default,[]⟩) (iM _) rfl rfl (by show _=some (ABlk.rows 7 (v.2.1.done.map ATxn.row));rw[hv.d];rfl))
 rw[Rw hlt];have hcc:∀ i,v.2.1.c i=w.c i:=fun i=>by show v.2.1.cl.getD i default=w.cl.getD i default;rw[hv.c]
 have hcm:=F8 v.2.1 cl x v.2.2 ⟨hv.l,hv.sg,fun i hi=>by rw[hcc];exact hc16 i hi,by rw[hv.d];exact hdn,by rw[hv.ld];omega,⟨by omega,hh2⟩,hcl,by rw[hcc];exact hsx,hxw⟩ (cl:Int) rfl;unfold inW d5 avN at hcm;rw[hv.d] at hcm;generalize lN v.2.1 cl x v.2.2=R at hcm ⊢;obtain⟨w',r⟩:=R;simp only at hcm ⊢;have hnt:((v.2.2.map gH).drop 0).take v.2.2.length=v.2.2.map gH:=by rw[Tj];exact Rz (by simp)
 refine WR (Xf 10 6 (fun j hj=>⟨by omega,by rcases j with _|_|j<;>first|exact⟨_,rfl,by simp⟩|omega⟩) rfl rfl (by simp)) ?_;simp only[go_sem,hnt]
 (refine zW qs (z2 (ac [0,1] hcm) (ic Tryz.func107)) X5 (z1 ?_)<;>(repeat with_reducible intro hc))
 all_goals try exact zk1
 refine zOp X5 ?_;simp(disch:=omega) only[go_sem,aa];exact Xa 7 8 (r:=r) rfl rfl rfl (by decide) rfl (by decide)
theorem A4:Pls [XE [0,1,3,4,7,8,9,10] (.forks 2 (XE [5] (.forks 6 (.fork 11 (.fork 12 (XE [13,14,15,16,17,18] .done) 16 (XE [12,13,14,15,17,18] .done)) 16 (XE [11,12,13,14,15,17,18] .done)) 11 (.fork 6 (.fork 12 (XE [13,14,15,16,17,18] .done) 16 (XE [12,13,14,15,17,18] .done)) 16 (XE [6,12,13,14,15,17,18] .done)) 16 (XE [6,11,12,13,14,15,17,18] .done))) 11 (.fork 2 (XE [5] (.fork 6 (.fork 12 (XE [13,14,15,16,17,18] .done) 16 (XE [12,13,14,15,17,18] .done)) 16 (XE [6,12,13,14,15,17,18] .done))) 16 (XE [2,5,6,12,13,14,15,17,18] .done)) 16 (XE [2,5,6,11,12,13,14,15,17,18] .done)),XE [0,1,2,3,4,5,6,7,8,9,10,11,12,13,14,15] .done,XE [0,1,2,4,5] (.forks 3 (.fork 6 (.fork 7 (XE [8,9,10,11,12,13] .done) 11 (XE [7,8,9,10,12,13] .done)) 11 (XE [6,7,8,9,10,12,13] .done)) 6 (.fork 3 (.fork 7 (XE [8,9,10,11,12,13] .done) 11 (XE [7,8,9,10,12,13] .done)) 11 (XE [3,7,8,9,10,12,13] .done)) 11 (XE [3,6,7,8,9,10,12,13] .done)),XE [0,1,2,3,4,5,6,7] .done,XE [0,1,2,3,4,5,6,7,8,9,10,11,12,13] .done]:=pls _
structure RdOk (w:AWorld):Prop where
 l:WL w
 t:∀ i,i<3→(w.s i).tree.nodes.length*88≤140737488351232∧aE (ar (w.s i).tree)
 v:∀ i,i<3→(w.s i).watches.length≤100000
 c:∀ i,i<16→(w.c i).cache.length≤100000∧aE ((w.c i).cache.map AEntry.path)
theorem wX{c:XM}{z:Int}(h:(gw c z).2=0):(gw c z).1.cache=c.cache∧(gw c z).1.session=c.session:=by
 unfold gw at h ⊢
 by_cases hz:z<c.seen
 ·rw[Rx hz] at h;exact absurd h (by decide)
 ·rw[Rw hz];exact⟨rfl,rfl⟩
theorem Ao{w:AWorld}{kind:Int}{k i:Nat}{rq:XK}{lost slow keep:Int}{watch:Bool}(h1:¬ ((k:Int)<0∨16≤(k:Int)∨(i:Int)<0∨3≤(i:Int))){n:XG×Int}{c:XM×Int}(hn:aw (w.s i).tree rq.path=n)(hc:gw (w.c k) (w.s i).tree.zxid=c) :
  ib w ⟨kind,k,i,rq,lost,slow,keep,watch⟩=if(w.s i).up=false then(w,noR 14) else if c.2≠0 then(w,noR c.2) else
   if watch=true then if(jE (w.s i).watches ⟨c.1.session,1,rq.path⟩).2≠0 then(w,noR (jE (w.s i).watches ⟨c.1.session,1,rq.path⟩).2) else
    ((w.setS i { w.s i with watches:=(jE (w.s i).watches ⟨c.1.session,1,rq.path⟩).1 }).setC k ⟨c.1.session,c.1.seen,fO c.1.cache ⟨rq.path,n.1.data,decide (n.2=0)⟩⟩,⟨n.2,(w.s i).tree.zxid,n.1.path,n.1.data,n.1.stat,[]⟩)
   else(w.setC k c.1,⟨n.2,(w.s i).tree.zxid,n.1.path,n.1.data,n.1.stat,[]⟩):=by
 subst hn hc;unfold ib;rw[Rw h1];rfl
theorem M2(w:AWorld)(d:XO)(hw:RdOk w)(hdw:d.wf):ab Tryz.prog (inW w) 56 [.ptr 0 0,d.av] (d5 (ib w d).1 (ib w d).2):=by
 obtain⟨⟨e1,e2,e3⟩,ht,hv,hc16⟩:=hw;obtain⟨kind,client,server,rq,lost,slow,keep,watch⟩:=d;obtain⟨_,hcI,hsI,hrq,_,_,_,_⟩:=hdw;simp only at hcI hsI hrq
 by_cases h1:client<0∨16≤client∨server<0∨3≤server
 ·unfold ib
  simp only;rw[Rx h1];have hcb:(decide (client<0)||decide (16≤client)||decide (server<0)||decide (3≤server))=true:=by rcases h1 with h|h|h|h<;>simp[h]
  unfold inW d5;refine zJ Tryz.func56 Tryz.ntmps56 Tryz.results56 ?_;simp only[go_sem]
  (refine zW qs zn @hcb (z1 ?_)<;>(repeat with_reducible intro hc))
  all_goals try exact zk3
  all_goals(refine zOp X5 ?_;simp(disch:=omega) only[go_sem,aa];exact WU (r:=noR 3) (rfl) rfl rfl rfl)
 obtain⟨k,rfl⟩:∃ k:Nat,client=(k:Int):=⟨client.toNat,by omega⟩;obtain⟨i,rfl⟩:∃ i:Nat,server=(i:Int):=⟨server.toNat,by omega⟩;have hk:k<16:=by omega
 have hi:i<3:=by omega
 have hcb:(decide ((k:Int)<0)||decide (16≤(k:Int))||decide ((i:Int)<0)||decide (3≤(i:Int)))=false:=by rw[RM (by omega),RM (by omega),RM (by omega),RM (by omega)];rfl
 have hti:=ht i hi;have hvi:=hv i hi;have hck:=hc16 k hk;have hgt:=kV (w.s i).tree rq.path hti.1 hti.2;have hsc:=Oa (w.c k) (w.s i).tree.zxid (by omega);have hse:=@wX (w.c k) (w.s i).tree.zxid;have hrd:=@Ao w kind k i rq lost slow keep watch h1 _ _ rfl rfl;rw[hrd];clear hrd;generalize aw (w.s i).tree rq.path=gq at hgt ⊢;obtain⟨gn,ge⟩:=gq;generalize gw (w.c k) (w.s i).tree.zxid=sq at hsc hse ⊢;obtain⟨c,ce⟩:=sq;simp only at hgt hsc hse ⊢;unfold inW d5;refine zJ Tryz.func56 Tryz.ntmps56 Tryz.results56 ?_;simp only[go_sem]
 (refine zW qs zn @hcb (z1 ?_)<;>(repeat with_reducible intro hc))
 all_goals try exact zk3
 refine WS [0,3,4] [(5,.ptr 0 (i*10))] [.cells (wC (cw w) 1),.rows 7 (w.done.map ATxn.row),.cells [I kind,I (k:Int),I (i:Int),I rq.op,I rq.session,S rq.path,S rq.data,I rq.version,I rq.flags,I lost,I slow,I keep,B watch],.cells [I 0,I 0,S [],S [],I 0,I 0,I 0,I 0,I 0,I 0,I 0,.d (.sc (.slice none 0 0))]] ?_ ?_
 ·refine zW qw zn X5 (z1 ?_)
  all_goals try exact zk1
  all_goals exact zFr [0,1,2,3] X5
 simp only[go_sem]
 by_cases hup:(w.s i).up=false
 ·rw[Rx hup]
  (refine zW qs zn @hup (z1 ?_)<;>(repeat with_reducible intro hc))
  all_goals try exact zk3
  all_goals(refine zOp X5 ?_;simp(disch:=omega) only[go_sem,aa];exact WU (r:=noR 14) (rfl) rfl rfl rfl)
 rw[Rw hup];have hup2:(w.s i).up=true:=by simpa using hup
 (refine zW qs zn @hup2 (z1 ?_)<;>(repeat with_reducible intro hc))
 all_goals try exact zk3
 refine WS [0,3,4,5] [(6,.ptr 4 0),(7,I ce)] [.cells (wC (cw w) 1),.rows 7 (w.done.map ATxn.row),.cells [I kind,I (k:Int),I (i:Int),I rq.op,I rq.session,S rq.path,S rq.data,I rq.version,I rq.flags,I lost,I slow,I keep,B watch],.cells [I 0,I 0,S [],S [],I 0,I 0,I 0,I 0,I 0,I 0,I 0,.d (.sc (.slice none 0 0))],.cells [I c.session,I c.seen,.d (.sl 3 (c.cache.map AEntry.row))]] ?_ ?_
 ·refine zW qw (z2 A4 hsc) X5 (zc ?_ (zc ?_ (zc ?_ (zc ?_ (zc ?_ (zc ?_ (zc ?_ (zc ?_ (z4 ?_ ?_ ?_ ?_)))))))))
  all_goals try exact zk1
  all_goals exact zFr [0,1,2,3,4] X5
 simp only[go_sem]
 by_cases hce:ce=0
 case neg=>
  rw[Rx hce]
  (refine zW qs zn X5 (z1 ?_)<;>(repeat with_reducible intro hc))
  all_goals try exact zk3
  all_goals(refine zOp X5 ?_;simp(disch:=omega) only[go_sem,aa];exact WU (r:=noR ce) (rfl) rfl rfl rfl)
 subst hce;rw[Rw (fun h=>h rfl)];obtain⟨hcc,hcs⟩:=hse rfl;cases watch
 ·rw[Rw (by decide)]
  have k3:=GQ e3 hk
  (refine zW qs zn X5 (z3 ?_ ?_ ?_)<;>(repeat with_reducible intro hc))
  all_goals try exact zk3
  refine WS [0,3,4,5,6] [(7,I ge),(10,.ptr 5 0)] [.cells (wC (cw w) 1),.rows 7 (w.done.map ATxn.row),.cells [I kind,I (k:Int),I (i:Int),I rq.op,I rq.session,S rq.path,S rq.data,I rq.version,I rq.flags,I lost,I slow,I keep,B false],.cells [I 0,I 0,S [],S [],I 0,I 0,I 0,I 0,I 0,I 0,I 0,.d (.sc (.slice none 0 0))],.cells [I c.session,I c.seen,.d (.sl 3 (c.cache.map AEntry.row))],.cells [S gn.path,S gn.data,I gn.stat.czxid,I gn.stat.mzxid,I gn.stat.pzxid,I gn.stat.version,I gn.stat.cversion,I gn.stat.owner,I gn.stat.kids]] ?_ ?_
  ·refine zW qw (z2 A4 hgt) X5 (zc ?_ (zc ?_ (zc ?_ (z4 ?_ ?_ ?_ ?_))))
   all_goals try exact zk1
   all_goals exact zFr [0,1,2,3,4,5] X5
  simp only[go_sem]
  (refine zW qs zn X5 (z2 ?_ ?_)<;>(try with_reducible intro(K:ASt→Prop) hK)<;>(repeat with_reducible intro hc))
  all_goals try exact zk3
  refine WS [0,3,4,5,6,7,10] [] [.cells (wC (cw (w.setC k c)) 1),.rows 7 (w.done.map ATxn.row),.cells [I kind,I (k:Int),I (i:Int),I rq.op,I rq.session,S rq.path,S rq.data,I rq.version,I rq.flags,I lost,I slow,I keep,B false],.cells [I 0,I 0,S [],S [],I 0,I 0,I 0,I 0,I 0,I 0,I 0,.d (.sc (.slice none 0 0))],.cells [I c.session,I c.seen,.d (.sl 3 (c.cache.map AEntry.row))],.cells [S gn.path,S gn.data,I gn.stat.czxid,I gn.stat.mzxid,I gn.stat.pzxid,I gn.stat.version,I gn.stat.cversion,I gn.stat.owner,I gn.stat.kids]] ?_ ?_
  ·refine zW qw (z1 A4) X5 (z1 ?_)
   all_goals try exact zk1
   all_goals exact zFr [0,1,2,3,4,5] @k3
  simp only[go_sem];have hws:(w.setC k c).s=w.s:=rfl;refine zW qw (z1 A4) @hws (z1 ?_)
  all_goals try exact zk3
  all_goals(refine zOp X5 ?_;simp(disch:=omega) only[go_sem,aa];exact WU (r:=⟨ge,(w.s i).tree.zxid,gn.path,gn.data,gn.stat,[]⟩) (rfl) rfl rfl rfl)
 ·rw[Rx rfl]
  have had:=Qg (w.s i).watches ⟨c.session,1,rq.path⟩ (by omega) hrq.2.2.1;generalize jE (w.s i).watches ⟨c.session,1,rq.path⟩=aq at had ⊢;obtain⟨wl,ae⟩:=aq;simp only at had ⊢
  (refine zW qs zn X5 (z3 ?_ ?_ ?_)<;>(repeat with_reducible intro hc))
  all_goals try exact zk3
  refine WS [0,3,4,5,6] [(8,.d (.sl 3 (wl.map AWatch.row))),(9,I ae)] [.cells (wC (cw w) 1),.rows 7 (w.done.map ATxn.row),.cells [I kind,I (k:Int),I (i:Int),I rq.op,I rq.session,S rq.path,S rq.data,I rq.version,I rq.flags,I lost,I slow,I keep,B true],.cells [I 0,I 0,S [],S [],I 0,I 0,I 0,I 0,I 0,I 0,I 0,.d (.sc (.slice none 0 0))],.cells [I c.session,I c.seen,.d (.sl 3 (c.cache.map AEntry.row))]] ?_ ?_
  ·refine zW qw (z2 A4 had) X5 (z1 ?_)
   all_goals try exact zk1
   all_goals exact zFr [0,1,2,3,4] X5
  simp only[go_sem]
  by_cases hae:ae=0
  case neg=>
   rw[Rx hae]
   (refine zW qs zn X5 (z2 ?_ ?_)<;>(repeat with_reducible intro hc))
   all_goals try exact zk3
   all_goals(refine zOp X5 ?_;simp(disch:=omega) only[go_sem,aa];exact WU (r:=noR ae) (rfl) rfl rfl rfl)
  subst hae;rw[Rw (fun h=>h rfl)]
  (refine zW qs zn X5 (z2 ?_ ?_)<;>(repeat with_reducible intro hc))
  all_goals try exact zk3
  have k1:=vU e1 hi;have hws:(w.setS i { w.s i with watches:=wl }).s i={ w.s i with watches:=wl }:=by rw[fv (by omega),Rx rfl]
  refine WS [0,3,4,5,6] [(7,I ge),(10,.ptr 5 0)] [.cells (wC (cw (w.setS i { w.s i with watches:=wl })) 1),.rows 7 (w.done.map ATxn.row),.cells [I kind,I (k:Int),I (i:Int),I rq.op,I rq.session,S rq.path,S rq.data,I rq.version,I rq.flags,I lost,I slow,I keep,B true],.cells [I 0,I 0,S [],S [],I 0,I 0,I 0,I 0,I 0,I 0,I 0,.d (.sc (.slice none 0 0))],.cells [I c.session,I c.seen,.d (.sl 3 (c.cache.map AEntry.row))],.cells [S gn.path,S gn.data,I gn.stat.czxid,I gn.stat.mzxid,I gn.stat.pzxid,I gn.stat.version,I gn.stat.cversion,I gn.stat.owner,I gn.stat.kids]] ?_ ?_
  ·refine zW qw (z2 A4 hgt) X5 (zc ?_ (zc ?_ (zc ?_ (z4 ?_ ?_ ?_ ?_))))
   all_goals try exact zk1
   all_goals exact zFr [0,1,2,3,4,5] @k1
  simp only[go_sem];have hkp:=MB c ⟨rq.path,gn.data,decide (ge=0)⟩ (by rw[hcc];exact hck.1) (by rw[hcc];exact hck.2);have k3:=GQ (w:=w.setS i { w.s i with watches:=wl }) e3 hk
  (refine zW qs (z1 hkp) X5 (z2 ?_ ?_)<;>(repeat with_reducible intro hc))
  all_goals try exact zk3
  refine WS [0,3,4,5,6,7,10] [] [.cells (wC (cw ((w.setS i { w.s i with watches:=wl }).setC k ⟨c.session,c.seen,fO c.cache ⟨rq.path,gn.data,decide (ge=0)⟩⟩)) 1),.rows 7 (w.done.map ATxn.row),.cells [I kind,I (k:Int),I (i:Int),I rq.op,I rq.session,S rq.path,S rq.data,I rq.version,I rq.flags,I lost,I slow,I keep,B true],.cells [I 0,I 0,S [],S [],I 0,I 0,I 0,I 0,I 0,I 0,I 0,.d (.sc (.slice none 0 0))],.cells [I c.session,I c.seen,.d (.sl 3 ((fO c.cache ⟨rq.path,gn.data,decide (ge=0)⟩).map AEntry.row))],.cells [S gn.path,S gn.data,I gn.stat.czxid,I gn.stat.mzxid,I gn.stat.pzxid,I gn.stat.version,I gn.stat.cversion,I gn.stat.owner,I gn.stat.kids]] ?_ ?_
  ·refine zW qw (z1 A4) X5 (z1 ?_)
   all_goals try exact zk1
   all_goals exact zFr [0,1,2,3,4,5] @k3
  simp only[go_sem];have hws2:((w.setS i { w.s i with watches:=wl }).setC k ⟨c.session,c.seen,fO c.cache ⟨rq.path,gn.data,decide (ge=0)⟩⟩).s=(w.setS i { w.s i with watches:=wl }).s:=rfl;refine zW qw (z1 A4) (zx @hws2 @hws) (z1 ?_)
  all_goals try exact zk3
  all_goals(refine zOp X5 ?_;simp(disch:=omega) only[go_sem,aa];exact WU (r:=⟨ge,(w.s i).tree.zxid,gn.path,gn.data,gn.stat,[]⟩) (rfl) rfl rfl rfl)
theorem dH.log{w:AWorld}{n:Nat}(h:dH w n){j:Nat}(hj:j<3):(w.s j).peer.log.length≤n:=by
 obtain⟨⟨g,es,K,h1⟩,_,_⟩:=h;obtain⟨_,hu,hd⟩:=h1.sv j hj;cases e:(w.s j).up
 ·obtain⟨_,_,hk,_⟩:=hd e
  rw[hk.log];exact RI _
 ·obtain⟨_,_,_,hlg,_⟩:=hu e
  rw[hlg];exact h1.small j hj
theorem dH.few{w:AWorld}{n:Nat}(h:dH w n):w.done.length≤n:=by obtain⟨⟨g,es,K,h1⟩,_,_⟩:=h;obtain⟨i,j,hi,_,_,⟨_,ha⟩,_⟩:=h1.pr.k1;exact RW h1.ack.length_le (RW ha (RW (h1.pr.al i hi) (h1.small i hi)))
theorem dH.wl{w:AWorld}{n:Nat}(h:dH w n):WL w:=by obtain⟨⟨g,es,K,h1⟩,_,_⟩:=h;exact⟨h1.sl,h1.fl,h1.cl⟩
theorem dH.ld{w:AWorld}{n:Nat}(h:dH w n):w.leader<3:=by
 obtain⟨⟨g,es,K,h1⟩,_,_⟩:=h
 by_cases hl:0≤w.leader
 ·exact(h1.pr.ld0 hl).1
 ·omega
theorem dH.sgs{w:AWorld}{n:Nat}(h:dH w n)(hn:n<1000){j:Nat}(hj:j<3):SG (w.s j):=by obtain⟨a,b,c,d,e⟩:=h.server hn hj;exact⟨⟨a,b,fun x hx=>by have:=(d x hx).2;omega⟩,c,e.1⟩
theorem dH.cache{w:AWorld}{n:Nat}(h:dH w n)(hn:n<1000){i:Nat}(hi:i<16):(w.c i).cache.length≤100000∧aE ((w.c i).cache.map AEntry.path):=by obtain⟨_,_,a,b,_⟩:=h.client hn hi;exact⟨by omega,a⟩
theorem dH.el{w:AWorld}{n:Nat}(h:dH w n)(hn:n<1000):ElOk w:=
 ⟨h.wl,fun _ hi=>(h.sgs hn hi).gs,fun i hi=>by have:=h.log hi;omega,fun _ hi=>(h.sgs hn hi).v,fun _ hi=>h.cache hn hi,by have:=h.few;omega⟩
theorem dH.rd{w:AWorld}{n:Nat}(h:dH w n)(hn:n<1000):RdOk w:=
 ⟨h.wl,fun _ hi=>⟨(h.sgs hn hi).gs.t.1.2.1.1,aF (h.sgs hn hi).g⟩,fun _ hi=>by have:=(h.sgs hn hi).v;omega,fun _ hi=>h.cache hn hi⟩
theorem dH.wr{w:AWorld}{n:Nat}(h:dH w n)(hn:n<1000):WrOk w:=by
 refine⟨h.wl,fun _ hi=>h.sgs hn hi,fun i hi=>by have:=h.log hi;omega,fun _ hi=>h.cache hn hi,fun i hi=>(h.client hn hi).1.1,by have:=h.few;omega,h.ld,fun i hi hl0=>.inl ?_⟩;obtain⟨⟨g,es,K,h⟩,_,_⟩:=h;obtain⟨hl3,hlE⟩:=h.pr.ld0 hl0;have hli:w.leader.toNat<3:=by omega
 obtain⟨hlf,hldone⟩:=h.lead hl0;obtain⟨hlu,_⟩:=h.fol hl0 _ hli hlf;obtain⟨ee,he,hk,hlg,hep⟩:=(h.sv _ hli).2.1 hlu;obtain⟨z0,z1,z2⟩:=h.lastOk hli;obtain⟨n1,n2,n3,n4⟩:=za (p:=(w.s w.leader.toNat).peer) (n:=n) (by omega) h.pr.es0 h.pr.esn (by rw[hep,hlE]) (by rw[hlg];exact z0) (by rw[hlg];exact z1) (by rw[hlg];exact z2);rw[hlg] at n4;rcases(h.cli _ hi).2.2.2.2 hl0 with a|a<;>omega
theorem dH.deed{w:AWorld}{n:Nat}(h:dH w n)(d:Int):dH { w with deeds:=d } n:=by obtain⟨⟨g,es,K,h1⟩,h2,h3⟩:=h;exact⟨⟨g,es,K,h1.deeds d⟩,h2,h3⟩
theorem Qk(w:AWorld)(d:XO)(n:Nat)(h:dH w n)(hn:n<1000)(h0:0≤w.deeds)(hdw:d.wf)(hdp:d.request.path.length≤1048576):ab Tryz.prog (inW w) 17 [.ptr 0 0,d.av] (d5 (doW w d).1 (doW w d).2):=by
 unfold doW
 by_cases h3:300≤w.deeds
 ·rw[Rx h3]
  unfold inW d5;refine zJ Tryz.func17 Tryz.ntmps17 Tryz.results17 ?_;simp only[go_sem]
  (refine zW qw zn X5 (z1 ?_)<;>(repeat with_reducible intro hc))
  all_goals try exact zk3
  all_goals(refine zOp X5 ?_;simp(disch:=omega) only[go_sem,aa];exact WU (r:=noR 6) (rfl) rfl rfl rfl)
 rw[Rw h3];have h:=h.deed (w.deeds+1);have hwr:=Ja { w with deeds:=w.deeds+1 } d (h.wr hn) hdw hdp;have hrd:=M2 { w with deeds:=w.deeds+1 } d (h.rd hn) hdw;have hel:=LI { w with deeds:=w.deeds+1 } (h.el hn);have hcr:=fun i hi ii hii=>Ki { w with deeds:=w.deeds+1 } i d.keep hi h.wl (h.server hn hi).1 ii hii
 have hup:=fun i hi ii hii=>Rg { w with deeds:=w.deeds+1 } i hi h.wl (h.server hn hi).1 ii hii
 have k1:(cw w).setD (w.deeds+1)=cw { w with deeds:=w.deeds+1 }:=rfl;have k2:w.done=({ w with deeds:=w.deeds+1 }:AWorld).done:=rfl;generalize ({ w with deeds:=w.deeds+1 }:AWorld)=w' at hwr hrd hel hcr hup k1 k2 ⊢;unfold qW
 by_cases q1:d.kind=1
 ·rw[Rx q1]
  unfold inW d5 avN at hwr;unfold inW d5;generalize dx w' d=R at hwr ⊢;obtain⟨u,r⟩:=R;simp only at hwr ⊢;refine zJ Tryz.func17 Tryz.ntmps17 Tryz.results17 ?_;simp only[go_sem]
  (refine zW qw (z1 (ac [0,1] hwr)) (zx @k1 @k2) (z1 ?_)<;>(repeat with_reducible intro hc))
  all_goals try exact zk3
  refine zOp X5 ?_;simp(disch:=omega) only[go_sem,aa];exact Xa 4 5 (r:=r) rfl rfl rfl (by decide) rfl (by decide)
 rw[Rw q1]
 by_cases q2:d.kind=2
 ·rw[Rx q2]
  unfold inW d5 avN at hrd;unfold inW d5;generalize ib w' d=R at hrd ⊢;obtain⟨u,r⟩:=R;simp only at hrd ⊢;refine zJ Tryz.func17 Tryz.ntmps17 Tryz.results17 ?_;simp only[go_sem]
  (refine zW qw (z1 (ac [0,1] hrd)) (zx @k1 @k2) (z1 ?_)<;>(repeat with_reducible intro hc))
  all_goals try exact zk3
  refine zOp X5 ?_;simp(disch:=omega) only[go_sem,aa];exact Xa 4 5 (r:=r) rfl rfl rfl (by decide) rfl (by decide)
 rw[Rw q2]
 by_cases q5:d.kind=5
 ·rw[Rx q5]
  unfold inW d5 avN at hel;unfold inW d5;generalize dj w'=R at hel ⊢;obtain⟨u,r⟩:=R;simp only at hel ⊢;refine zJ Tryz.func17 Tryz.ntmps17 Tryz.results17 ?_;simp only[go_sem]
  (refine zW qw (z1 (ac [0,1] hel)) (zx @k1 @k2) (z1 ?_)<;>(repeat with_reducible intro hc))
  all_goals try exact zk3
  refine zOp X5 ?_;simp(disch:=omega) only[go_sem,aa];exact Xa 4 5 (r:=r) rfl rfl rfl (by decide) rfl (by decide)
 rw[Rw q5]
 by_cases q3:d.kind=3∨d.kind=4
 case neg=>
  rw[Rw q3];unfold inW d5;refine zJ Tryz.func17 Tryz.ntmps17 Tryz.results17 ?_;simp only[go_sem]
  (refine zW qw zn (zx @k1 @k2) (z1 ?_)<;>(repeat with_reducible intro hc))
  all_goals try exact zk3
  all_goals(refine zOp X5 ?_;simp(disch:=omega) only[go_sem,aa];exact WU (r:=noR 4) (rfl) rfl rfl rfl)
 rw[Rx q3]
 by_cases hs:d.server<0∨3≤d.server
 ·rw[Rx hs]
  unfold inW d5;refine zJ Tryz.func17 Tryz.ntmps17 Tryz.results17 ?_;simp only[go_sem]
  (refine zW qw zn (zx @k1 @k2) (z2 ?_ ?_)<;>(repeat with_reducible intro hc))
  all_goals try exact zk3
  all_goals(refine zOp X5 ?_;simp(disch:=omega) only[go_sem,aa];exact WU (r:=noR 3) (rfl) rfl rfl rfl)
 rw[Rw hs];have hi:d.server.toNat<3:=by omega
 by_cases q4:d.kind=4
 ·rw[Rx q4]
  have hup:=hup d.server.toNat hi d.server (by omega);unfold inW d5 avN at hup;unfold inW d5;generalize upW w' d.server.toNat=R at hup ⊢;obtain⟨u,r⟩:=R;simp only at hup ⊢;refine zJ Tryz.func17 Tryz.ntmps17 Tryz.results17 ?_;simp only[go_sem]
  (refine zW qw (z1 (ac [0,1] hup)) (zx @k1 @k2) (z1 ?_)<;>(repeat with_reducible intro hc))
  all_goals try exact zk3
  refine zOp X5 ?_;simp(disch:=omega) only[go_sem,aa];exact Xa 4 5 (r:=r) rfl rfl rfl (by decide) rfl (by decide)
 rw[Rw q4]
 ·have hcr:=hcr d.server.toNat hi d.server (by omega)
  unfold inW d5 avN at hcr;unfold inW d5;generalize iu w' d.server.toNat d.keep=R at hcr ⊢;obtain⟨u,r⟩:=R;simp only at hcr ⊢;refine zJ Tryz.func17 Tryz.ntmps17 Tryz.results17 ?_;simp only[go_sem]
  (refine zW qw (z1 (ac [0,1] hcr)) (zx @k1 @k2) (z1 ?_)<;>(repeat with_reducible intro hc))
  all_goals try exact zk3
  refine zOp X5 ?_;simp(disch:=omega) only[go_sem,aa];exact Xa 4 5 (r:=r) rfl rfl rfl (by decide) rfl (by decide)
theorem PX:Pls [XE [0,1,2,3,8,9,4,5,6,7,10,11] .done,XE [0,1,2,3,8,9,4,5,6,7,10,11] .done]:=pls _
def zS:XH:=⟨false,⟨[]⟩,⟨0,0,[],0⟩,⟨0,[],[]⟩,[]⟩
def zC:XM:=⟨0,0,[]⟩
def nW(a b:Nat):CW:=⟨fun j=>if j<a then(cK (j:Int) []).1 else zS,fun j=>if j<b then⟨(j:Int)+1,0,[]⟩ else zC,-1,fun _=>false,0,0⟩
theorem P9(a b:Nat):(nW a b).setS a (cK (a:Int) []).1=nW (a+1) b:=by
 have:(fun j=>if j=a then(cK (a:Int) []).1 else(nW a b).s j)=(nW (a+1) b).s:=funext fun j=>by
  show _=if j<a+1 then(cK (j:Int) []).1 else zS
  by_cases e:j=a
  ·subst e;rw[Rx rfl,Rx (by omega)]
  ·rw[Rw e]
   show(if j<a then(cK (j:Int) []).1 else zS)=_
   by_cases h:j<a
   ·rw[Rx h,Rx (by omega)]
   ·rw[Rw h,Rw (by omega)]
 show CW.mk _ _ _ _ _ _=_;rw[this];rfl
theorem P0(a b:Nat):(nW a b).setC b ⟨(b:Int)+1,0,[]⟩=nW a (b+1):=by
 have:(fun j=>if j=b then(⟨(b:Int)+1,0,[]⟩:XM) else(nW a b).c j)=(nW a (b+1)).c:=funext fun j=>by
  show _=if j<b+1 then(⟨(j:Int)+1,0,[]⟩:XM) else zC
  by_cases e:j=b
  ·subst e;rw[Rx rfl,Rx (by omega)]
  ·rw[Rw e]
   show(if j<b then(⟨(j:Int)+1,0,[]⟩:XM) else zC)=_
   by_cases h:j<b
   ·rw[Rx h,Rx (by omega)]
   ·rw[Rw h,Rw (by omega)]
 show CW.mk _ _ _ _ _ _=_;rw[this];rfl
theorem Is(k:Nat):wC (nW 3 16) k=wC (cw gE) k:=by unfold wC;rfl
theorem Nt{k:Nat}(h:k<16):LB ((k:Int)+1)=(⟨(k:Int)+1,0,[]⟩,0):=by unfold LB;rw[Rw (by omega)]
theorem P1(k:Nat):wC (nW 0 0) k=[.d (.bool false),.d (.sl 3 []),I 0,I 0,.d (.sl 7 []),I 0,I 0,.d (.sl 9 []),.d (.sl 1 []),.d (.sl 3 []),.d (.bool false),.d (.sl 3 []),I 0,I 0,.d (.sl 7 []),I 0,I 0,.d (.sl 9 []),.d (.sl 1 []),.d (.sl 3 []),.d (.bool false),.d (.sl 3 []),I 0,I 0,.d (.sl 7 []),I 0,I 0,.d (.sl 9 []),.d (.sl 1 []),.d (.sl 3 []),
 I 0,I 0,.d (.sl 3 []),I 0,I 0,.d (.sl 3 []),I 0,I 0,.d (.sl 3 []),I 0,I 0,.d (.sl 3 []),I 0,I 0,.d (.sl 3 []),I 0,I 0,.d (.sl 3 []),I 0,I 0,.d (.sl 3 []),I 0,I 0,.d (.sl 3 []),I 0,I 0,.d (.sl 3 []),I 0,I 0,.d (.sl 3 []),I 0,I 0,.d (.sl 3 []),I 0,I 0,.d (.sl 3 []),I 0,I 0,.d (.sl 3 []),I 0,I 0,.d (.sl 3 []),I 0,I 0,.d (.sl 3 []),I 0,I 0,.d (.sl 3 []),
 I (-1),B false,B false,B false,.osl k 7 0 0,I 0]:=rfl
theorem O2:ab Tryz.prog [] 16 [] (ew (.ptr 0 0) [.cells (wC (cw gE) 1),.rows 7 []]):=by
 refine zJ Tryz.func16 Tryz.ntmps16 Tryz.results16 ?_;simp only[go_sem];refine zW qw zn X5 (z1 ?_);refine WR (ay.trans (W8 0 82 7 rfl rfl) (Xo (cs':=wC (nW 0 0) 1) 0 rfl (by rw[P1];simp(disch:=omega) only[go_sem,aa];exact iT _))) ?_;simp only[go_sem];refine WQ (ι:=Nat) (fun v=>v≤3) (fun v=>3-v) [1] (fun v=>[(6,I v)]) (fun v=>[.cells (wC (nW v 0) 1),.rows 7 []]) 0 ?_ ?_ ?_
 ·exact RI _
 ·simp only[go_sem];exact zFr [0,1] X5
 intro v hv;simp only[go_sem]
 by_cases hk:v<3
 ·have hb:=IH (v:Int) ⟨[]⟩ (by simp) (fun f hf=>by cases hf)
  have k1:=P9 v 0;simp only at hb;generalize cK (v:Int) []=q at hb k1;obtain⟨s,e⟩:=q;simp only at hb k1
  (refine zW qw (z2 PX hb) X5 (z1 ?_)<;>(repeat with_reducible intro hc))
  all_goals try exact zk3
  all_goals(refine⟨v+1,by omega,by omega,?_⟩;exact zFr [0,1] @k1)
 obtain rfl:v=3:=by omega
 (refine zW qw zn X5 (z1 ?_)<;>(repeat with_reducible intro hc))
 all_goals try exact zk3
 clear hv hk;refine WQ (ι:=Nat) (fun v=>v≤16) (fun v=>16-v) [1] (fun v=>[(21,I v)]) (fun v=>[.cells (wC (nW 3 v) 1),.rows 7 []]) 0 ?_ ?_ ?_
 ·exact RI _
 ·simp only[go_sem];exact zFr [0,1] X5
 intro v hv;simp only[go_sem]
 by_cases hk:v<16
 ·have hb:=OO ((v:Int)+1)
  rw[Nt hk] at hb;have k2:=Po (nW 3 v) 1 v hk ((v:Int)+1) 0 [];rw[P0 3 v,TP] at k2
  (refine zW qw (z2 PX hb) X5 (z1 ?_)<;>(repeat with_reducible intro hc))
  all_goals try exact zk3
  all_goals(refine⟨v+1,by omega,by omega,?_⟩;exact zFr [0,1] @k2)
 obtain rfl:v=16:=by omega
 (refine zW qw zn X5 (z1 ?_)<;>(repeat with_reducible intro hc))
 all_goals try exact zk3
 rw[Is];refine zOp X5 ?_;simp(disch:=omega) only[go_sem,aa];exact af.done rfl rfl
end Go.Proofs.YtjcooccnfkfjhaaGreatDoor
