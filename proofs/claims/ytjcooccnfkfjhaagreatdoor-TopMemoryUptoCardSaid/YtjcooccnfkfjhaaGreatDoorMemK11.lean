/- A part of what Mem leans on: texts of this claim, one behind the other. No condition. -/
import Derived.Test.YtjcooccnfkfjhaaGreatDoorMemK10
namespace Go.Proofs.YtjcooccnfkfjhaaGreatDoor
set_option linter.unusedVariables false
set_option linter.unusedSimpArgs false
open Go Go.RowKit
set_option maxRecDepth 100000
def bO (t:ATree):List ATxn→Option ATree
 |[]=>some t
 |x::r=>if (ar t x).2.2=0 then bO (ar t x).1 r else none
theorem og (a b:List ATxn):∀ t,bO t (a++b)=(bO t a).bind fun u=>bO u b:=by
 induction a with
 |nil=>intro t;rfl
 | cons x a ih=>
   intro t
   rw [List.cons_append,bO,bO]
   split
   ·exact ih _
   ·rfl
theorem jt {t u:ATree} {l:List ATxn} (h:bO t l=some u) (k:Nat):∃ v,bO t (l.take k)=some v:=by
 rw [←List.take_append_drop k l,og] at h
 cases e:bO t (l.take k) with
 |none=>rw [e] at h;cases h
 |some v=>exact ⟨v,rfl⟩
theorem B5 {t u v:ATree} {a b:List ATxn} (h1:bO t a=some u) (h2:bO t (a++b)=some v):bO u b=some v:=by
 rw [og,h1] at h2;exact h2
theorem tZ:∀ (X:List ATxn) (p:CSt) {v:ATree},bO p.t X=some v→(iM X p).2=0∧(iM X p).1.t=v
 |[],p,v,h=>by injection h with h;exact ⟨rfl,h⟩
 | x :: X,p,v,h=>by
   rw [bO] at h
   split at h
   ·rename_i he
    rw [oJ he]
    exact tZ X (jS (ar p.t x) p x) h
   ·cases h
structure UpOk (s:AServer) (e:Option (List UInt8)) (a:Nat):Prop where
 up:s.up=true
 disk:s.disk.files=mkD e (encs (s.peer.log.take a)) (encs (s.peer.log.drop a))
 le:a≤s.peer.log.length
 log:logOk s.peer.log
 small:(encs s.peer.log).length≤1048576
 elen:∀ x,e=some x→x.length≤1048576
 d0:0≤s.peer.done
 dl:s.peer.done≤s.peer.log.length
 tree:bO t00 (s.peer.log.take s.peer.done.toNat)=some s.tree
 play:∃ v,bO t00 s.peer.log=some v
theorem fv (l:List ATxn) (a:Nat):encs (l.take a)++encs (l.drop a)=encs l:=by rw [←vR,List.take_append_drop]
theorem UpOk.okD {s:AServer} {e:Option (List UInt8)} {a:Nat} (h:UpOk s e a):okD e (encs (s.peer.log.take a)) (encs (s.peer.log.drop a)):=
 ⟨h.elen,by rw [←List.length_append,fv];exact h.small⟩
theorem UpOk.scan {s:AServer} {e:Option (List UInt8)} {a:Nat} (h:UpOk s e a):scanT (encs s.peer.log)=(s.peer.log,(encs s.peer.log).length):=by
 have:=vT h.log (rest:=[]) A5
 rwa [List.append_nil] at this
theorem UpOk.recovers {s:AServer} {e:Option (List UInt8)} {a:Nat} (h:UpOk s e a):recoverD s.disk.files=(s.peer.log,⟨mkD e (encs s.peer.log) []⟩,0):=by
 rw [h.disk,jC h.okD,fv,h.scan]
theorem UpOk.good {s:AServer} {e:Option (List UInt8)} {a:Nat} (h:UpOk s e a):bF s.disk.files=true:=by rw [h.disk];exact fb h.okD
theorem UpOk.take {s:AServer} {e:Option (List UInt8)} {a:Nat} (h:UpOk s e a) {x:ATxn} (hx:aN x=0) (hz:az s.peer.log<x.zxid) (hl:(encs s.peer.log).length+(cH x).1.length≤1048576) (hp:∃ v,bO t00 (s.peer.log++[x])=some v) (safe:Bool) :
  ∃ d,bh s x safe=(⟨s.up,d,⟨s.peer.id,s.peer.epoch,s.peer.log++[x],s.peer.done⟩,s.tree,s.watches⟩,0)∧UpOk ⟨s.up,d,⟨s.peer.id,s.peer.epoch,s.peer.log++[x],s.peer.done⟩,s.tree,s.watches⟩ e (if safe then s.peer.log.length+1 else a):=by
 have hle:=h.le
 have hlen:(encs (s.peer.log.take a)).length+(encs (s.peer.log.drop a)).length=(encs s.peer.log).length:=by rw [←List.length_append,fv]
 have hap:=C0 h.okD hx (by omega) safe
 refine ⟨(cZ s.disk.files x safe).1,?_,?_⟩
 ·unfold bh
  rw [if_neg (by omega),if_pos (by rw [h.disk,hap])]
 ·have hd:(cZ s.disk.files x safe).1.files=mkD e (encs ((s.peer.log++[x]).take (if safe then s.peer.log.length+1 else a))) (encs ((s.peer.log++[x]).drop (if safe then s.peer.log.length+1 else a))):=by
   rw [h.disk,hap]
   cases safe with
   | true=>
     simp only [if_true]
     have e1:(s.peer.log++[x]).take (s.peer.log.length+1)=s.peer.log++[x]:=List.take_of_length_le (by simp)
     have e2:(s.peer.log++[x]).drop (s.peer.log.length+1)=[]:=List.drop_eq_nil_of_le (by simp)
     rw [e1,e2,fe,iW,←List.append_assoc,fv]
   | false=>
     simp only [Bool.false_eq_true,if_false]
     rw [List.take_append_of_le_length hle,List.drop_append_of_le_length hle,iW]
  refine ⟨h.up,hd,?_,ju h.log (fun _=>hz) hx,by simp only;rw [iW,List.length_append];exact hl,h.elen,h.d0,?_,?_,hp⟩
  ·simp only [List.length_append,List.length_singleton];split<;>omega
  ·have:=h.dl;simp only [List.length_append,List.length_singleton];omega
  ·have:=h.dl;have:=h.d0
   simp only
   rw [List.take_append_of_le_length (by omega)];exact h.tree
structure DownOk (s:AServer) (e:Option (List UInt8)) (l:List ATxn):Prop where
 up:s.up=false
 disk:∃ c,s.disk.files=mkD e c []∧c.length≤1048576∧(scanT c).1=l
 elen:∀ x,e=some x→x.length≤1048576
 log:s.peer.log=[]
 done:s.peer.done=0
 ep:s.peer.epoch=0
 tree:s.tree=t00
 watches:s.watches=[]
 play:∃ v,bO t00 l=some v
theorem UpOk.crash {s:AServer} {e:Option (List UInt8)} {a:Nat} (h:UpOk s e a) {keep:Int} (hk:0≤keep):∃ k,a≤k∧k≤s.peer.log.length∧(bL s keep).2=0∧DownOk (bL s keep).1 e (s.peer.log.take k)∧(bL s keep).1.peer.id=s.peer.id:=by
 have hc:=FD h.okD hk
 have hle:=h.le
 have hpre:encs (s.peer.log.take a)++(encs (s.peer.log.drop a)).take keep.toNat=(encs s.peer.log).take ((encs (s.peer.log.take a)).length+keep.toNat):=by
  conv=>rhs;rw [←fv s.peer.log a]
  rw [List.take_append,List.take_of_length_le (Nat.le_add_right _ _),Nat.add_sub_cancel_left]
 obtain ⟨k,k1,k2,k3⟩:=Ge h.log ((encs (s.peer.log.take a)).length+keep.toNat)
 have he:fy s.disk.files keep=(⟨mkD e ((encs s.peer.log).take ((encs (s.peer.log.take a)).length+keep.toNat)) []⟩,0):=by rw [h.disk,hc,hpre]
 have hs:bL s keep=(⟨false,⟨mkD e ((encs s.peer.log).take ((encs (s.peer.log.take a)).length+keep.toNat)) []⟩,⟨s.peer.id,0,[],0⟩,t00,[]⟩,0):=by
  unfold bL;rw [he,if_pos rfl]
 refine ⟨k,k3 a hle (Nat.le_add_right _ _),k1,by rw [hs],?_,by rw [hs]⟩
 rw [hs]
 exact ⟨rfl,⟨_,rfl,by rw [List.length_take];have:=h.small;omega,by rw [k2]⟩,h.elen,rfl,rfl,rfl,rfl,rfl,by obtain ⟨v,hv⟩:=h.play;exact jt hv k⟩
theorem DownOk.logOk {s:AServer} {e:Option (List UInt8)} {l:List ATxn} (h:DownOk s e l):logOk l:=by
 obtain ⟨c,_,_,h3⟩:=h.disk
 rw [←h3];exact (mS c).1
theorem DownOk.good {s:AServer} {e:Option (List UInt8)} {l:List ATxn} (h:DownOk s e l):bF s.disk.files=true:=by
 obtain ⟨c,h1,h2,_⟩:=h.disk
 rw [h1];exact fb ⟨h.elen,by simpa using h2⟩
theorem DownOk.recovers {s:AServer} {e:Option (List UInt8)} {l:List ATxn} (h:DownOk s e l):recoverD s.disk.files=(l,⟨mkD e (encs l) []⟩,0)∧(encs l).length≤1048576:=by
 obtain ⟨c,h1,h2,h3⟩:=h.disk
 have hr:=jC (e:=e) (s:=c) (t:=[]) ⟨h.elen,by simpa using h2⟩
 have hsm:=z8 c
 rw [List.append_nil,h3] at hr
 rw [h3] at hsm
 exact ⟨by rw [h1,hr],by omega⟩
theorem DownOk.boot {s:AServer} {e:Option (List UInt8)} {l:List ATxn} (h:DownOk s e l) (id ep:Int):UpOk ⟨true,⟨mkD e (encs l) []⟩,⟨id,ep,l,0⟩,t00,[]⟩ e l.length:=by
 refine ⟨rfl,?_,Nat.le_refl _,h.logOk,h.recovers.2,h.elen,Int.le_refl _,by simp,?_,h.play⟩
 ·simp only;rw [List.take_length,List.drop_length,fe]
 ·show bO t00 (l.take 0)=some t00
  rw [List.take_zero];rfl
theorem UpOk.commit {s:AServer} {e:Option (List UInt8)} {a:Nat} (h:UpOk s e a) {n:Int} (h1:s.peer.done≤n) (h2:n≤s.peer.log.length) :
  ∃ t w ns,ax s n=(⟨s.up,s.disk,⟨s.peer.id,s.peer.epoch,s.peer.log,n⟩,t,w⟩,ns,0)∧UpOk ⟨s.up,s.disk,⟨s.peer.id,s.peer.epoch,s.peer.log,n⟩,t,w⟩ e a:=by
 have h0:=h.d0
 have hdl:=h.dl
 obtain ⟨v,hv⟩:=h.play
 obtain ⟨u,hu⟩:=jt hv n.toNat
 have hsplit:s.peer.log.take n.toNat=s.peer.log.take s.peer.done.toNat++(s.peer.log.drop s.peer.done.toNat).take (n.toNat-s.peer.done.toNat):=by
  conv=>lhs;rw [show n.toNat=s.peer.done.toNat+(n.toNat-s.peer.done.toNat) from by omega]
  rw [List.take_add]
 have hu2:=hu
 rw [hsplit] at hu2
 have hm:=B5 h.tree hu2
 obtain ⟨r1,r2⟩:=tZ _ ⟨s.tree,s.watches,[]⟩ hm
 have hc:¬ (s.peer.done<0∨n<s.peer.done∨(s.peer.log.length:Int)<n):=by omega
 generalize hR:iM ((s.peer.log.drop s.peer.done.toNat).take (n.toNat-s.peer.done.toNat)) ⟨s.tree,s.watches,[]⟩=R at r1 r2
 refine ⟨R.1.t,R.1.w,R.1.n,?_,?_⟩
 ·unfold ax;rw [if_neg hc];simp only;rw [hR,if_pos r1]
 ·exact ⟨h.up,h.disk,h.le,h.log,h.small,h.elen,by simp only;omega,h2,by simp only;rw [r2];exact hu,h.play⟩
def gy (l:List AFile):Int:=if (readD l epN).2≠0 then 0 else if (jN (readD l epN).1).2≠0 then 0 else epZ (jN (readD l epN).1).1
def bg (l:List AFile) (ep:Int):ADisk×Int:=
 if (mkZ ep 0).2≠0 then (default,(mkZ ep 0).2) else
 if (aP (if (bv l epN).2=0 then (bv l epN).1.files else l) epN (fm (mkZ ep 0).1)).2≠0 then (default,(aP (if (bv l epN).2=0 then (bv l epN).1.files else l) epN (fm (mkZ ep 0).1)).2) else
 bj (aP (if (bv l epN).2=0 then (bv l epN).1.files else l) epN (fm (mkZ ep 0).1)).1.files epN mF
def cK (id:Int) (l:List AFile):AServer×Int:=
 if id<0∨2<id then (default,3) else if (recoverD l).2.2≠0 then (default,(recoverD l).2.2) else (⟨true,(recoverD l).2.1,⟨id,gy l,(recoverD l).1,0⟩,t00,[]⟩,0)
def bf:List ATxn→List ATxn→Nat
 |x::a,y::b=>if x.zxid=y.zxid then bf a b+1 else 0
 |_,_=>0
def ex (s:AServer):List ATxn→AServer×Int
 |[]=>(s,0)
 |x::r=>if (bh s x true).2=0 then ex (bh s x true).1 r else (default,(bh s x true).2)
def fc (l:List ATxn) (k:Nat):Int:=if 0<k then (l.getD (k-1) default).zxid else -1
def aF (s:AServer) (l:List ATxn) (ep:Int):AServer×Int:=
 if (bf l s.peer.log:Int)<s.peer.done then (default,13) else
 if (keepD s.disk.files (fc l (bf l s.peer.log))).2≠0 then (default,(keepD s.disk.files (fc l (bf l s.peer.log))).2) else
 if (bg (keepD s.disk.files (fc l (bf l s.peer.log))).1.files ep).2≠0 then (default,(bg (keepD s.disk.files (fc l (bf l s.peer.log))).1.files ep).2) else
 ex ⟨s.up,(bg (keepD s.disk.files (fc l (bf l s.peer.log))).1.files ep).1,⟨s.peer.id,ep,s.peer.log.take (bf l s.peer.log),s.peer.done⟩,s.tree,s.watches⟩ (l.drop (bf l s.peer.log))
theorem js:∀ (a b:List ATxn),bf a b≤a.length∧bf a b≤b.length
 |[],_=>⟨Nat.zero_le _,Nat.zero_le _⟩
 |_::_,[]=>⟨Nat.zero_le _,Nat.zero_le _⟩
 | x::a,y::b=>by
   have:=js a b
   unfold bf
   split
   ·simp only [List.length_cons];omega
   ·exact ⟨Nat.zero_le _,Nat.zero_le _⟩
theorem lR:∀ (a b:List ATxn) (j:Nat),j<bf a b→(a.getD j default).zxid=(b.getD j default).zxid
 |[],_,_,h=>by simp [bf] at h
 |_::_,[],_,h=>by simp [bf] at h
 | x :: a,y::b,j,h=>by
   unfold bf at h
   split at h
   ·rename_i e
    rcases j with _|j
    ·exact e
    ·simpa using lR a b j (by omega)
   ·omega
theorem kP {ep:Int} (h0:0≤ep) (h1:ep≤2147483647):mkZ ep 0=(ep*2147483648,0)∧bR (ep*2147483648)∧epZ (ep*2147483648)=ep:=by
 have hg:bR (ep*2147483648):=by unfold bR;omega
 refine ⟨?_,hg,?_⟩
 ·unfold mkZ;rw [if_neg (by unfold sy;omega)];simp
 ·unfold epZ;rw [if_pos hg];omega
def epB (ep:Int):List UInt8:=fm (ep*2147483648)
theorem u4 {ep:Int} (h0:0≤ep) (h1:ep≤2147483647):(epB ep).length≤21:=tu (kP h0 h1).2.1
theorem GK {ep:Int} (h0:0≤ep) (h1:ep≤2147483647) {s t:List UInt8} (h:s.length+t.length≤1048576):gy (mkD (some (epB ep)) s t)=ep:=by
 obtain ⟨_,g2,g3⟩:=kP h0 h1
 have hl:=u4 h0 h1
 have hr:=GO (x:=epB ep) (s:=s) (t:=t) ⟨fun x hx=>by injection hx with hx;subst hx;omega,h⟩
 have hz:jN (epB ep)=(ep*2147483648,0):=BF g2
 unfold gy
 rw [hr,if_neg (fun h=>h rfl),hz,if_neg (fun h=>h rfl)]
 exact g3
theorem yX {s t:List UInt8} (h:s.length+t.length≤1048576):gy (mkD none s t)=0:=by
 have hr:=Ga (s:=s) (t:=t) ⟨(fun x hx=>by cases hx),h⟩
 unfold gy
 rw [hr,if_pos (by decide)]
theorem xq {ep:Int} (h0:0≤ep) (h1:ep≤2147483647) {e:Option (List UInt8)} {s t:List UInt8} (h:okD e s t):bg (mkD e s t) ep=(⟨mkD (some (epB ep)) s t⟩,0):=by
 obtain ⟨g1,g2,_⟩:=kP h0 h1
 have hl:=u4 h0 h1
 have hn:okD none s t:=⟨fun x hx=>(by cases hx),h.2⟩
 have hrm:(if (bv (mkD e s t) epN).2=0 then (bv (mkD e s t) epN).1.files else mkD e s t)=mkD none s t:=by
  cases e with
  |none=>rw [yJ hn,if_neg (by decide)]
  |some x=>rw [yr h,if_pos rfl]
 unfold bg
 rw [g1,if_neg (fun h=>h rfl),hrm]
 simp only
 rw [show fm (ep*2147483648)=epB ep from rfl,EP hn (by omega),if_neg (fun h=>h rfl)]
 exact IU hn (by omega)
theorem ut {l:List ATxn} (h:logOk l) (k:Nat) (hk:k≤l.length) {z:Int} (hz:if 0<k then (l.getD (k-1) default).zxid=z else z=-1):keepL l z=l.take k:=by
 have h0:∀ j,j<l.length→0≤(l.getD j default).zxid:=fun j hj=>(eX (h.2 _ (bU l j hj))).1.1
 refine qP h hk (fun j hj=>?_) (fun hlt=>?_)
 ·rw [if_pos (by omega)] at hz
  by_cases e:j=k-1
  ·subst e;omega
  ·have:=gJ h (show j<k-1 by omega) (by omega)
   omega
 ·by_cases hk0:0<k
  ·rw [if_pos hk0] at hz
   have:=gJ h (show k-1<k by omega) hlt
   omega
  ·rw [if_neg hk0] at hz
   have:=h0 k hlt
   omega
theorem Fg {x:ATxn} {r:List ATxn} {v:ATree} (h:bO t00 (x::r)=some v):0<x.zxid:=by
 rw [bO] at h
 split at h
 ·rename_i he
  unfold ar at he
  split at he
  ·rename_i hw;exact absurd he hw
  ·rename_i hw
   have:=(dU (Classical.not_not.1 hw)).2.2.1
   exact this
 ·cases h
theorem UpOk.takes:∀ (r:List ATxn) {s:AServer} {e:Option (List UInt8)},UpOk s e s.peer.log.length→logOk (s.peer.log++r)→(encs (s.peer.log++r)).length≤1048576→(∃ v,bO t00 (s.peer.log++r)=some v)→
  ∃ d,ex s r=(⟨s.up,d,⟨s.peer.id,s.peer.epoch,s.peer.log++r,s.peer.done⟩,s.tree,s.watches⟩,0)∧UpOk ⟨s.up,d,⟨s.peer.id,s.peer.epoch,s.peer.log++r,s.peer.done⟩,s.tree,s.watches⟩ e (s.peer.log++r).length
 |[],s,e,h,_,_,_=>⟨s.disk,by rw [List.append_nil];rfl,by rw [List.append_nil];exact h⟩
 | x :: r,s,e,h,ho,hl,hp=>by
   have hx:aN x=0:=ho.2 x (by simp)
   have hz:az s.peer.log<x.zxid:=by
    by_cases h0:0<s.peer.log.length
    ·rw [dK h0]
     have:=gJ ho (i:=s.peer.log.length-1) (j:=s.peer.log.length) (by omega) (by simp)
     rw [List.getD_eq_getElem?_getD,List.getElem?_append_left (by omega),←List.getD_eq_getElem?_getD,List.getD_eq_getElem?_getD (i:=s.peer.log.length),List.getElem?_append_right (Nat.le_refl _),Nat.sub_self] at this
     exact this
    ·have hn:s.peer.log=[]:=List.eq_nil_of_length_eq_zero (by omega)
     obtain ⟨v,hv⟩:=hp
     rw [hn,List.nil_append] at hv
     rw [hn,gu];exact Fg hv
   have hl1:(encs s.peer.log).length+(cH x).1.length≤1048576:=by
    rw [vR,dJ,List.length_append,List.length_append] at hl;omega
   have hp1:∃ v,bO t00 (s.peer.log++[x])=some v:=by
    obtain ⟨v,hv⟩:=hp
    have:=jt hv (s.peer.log.length+1)
    rwa [List.take_append,List.take_of_length_le (by omega),Nat.add_sub_cancel_left,List.take_succ_cons,List.take_zero] at this
   obtain ⟨d,t1,t2⟩:=h.take hx hz hl1 hp1 true
   rw [if_pos rfl] at t2
   have e1:s.peer.log++x::r=(s.peer.log++[x])++r:=by simp
   obtain ⟨d2,q1,q2⟩:=UpOk.takes r (s:=⟨s.up,d,⟨s.peer.id,s.peer.epoch,s.peer.log++[x],s.peer.done⟩,s.tree,s.watches⟩) (e:=e) (by simp only [List.length_append,List.length_singleton];exact t2) (by simp only;rw [←e1];exact ho) (by simp only;rw [←e1];exact hl) (by simp only;rw [←e1];exact hp)
   simp only at q1 q2
   rw [←e1] at q1 q2
   exact ⟨d2,by rw [ex,t1,if_pos rfl];exact q1,q2⟩
theorem UpOk.follow {s:AServer} {e:Option (List UInt8)} {a:Nat} (h:UpOk s e a) {l:List ATxn} (ho:logOk l) (hl:(encs l).length≤1048576) (hp:∃ v,bO t00 l=some v) {ep:Int} (h0:0≤ep) (h1:ep≤2147483647)
  (hm:l.take (bf l s.peer.log)=s.peer.log.take (bf l s.peer.log)) (hd:s.peer.done≤bf l s.peer.log) :
  ∃ d,aF s l ep=(⟨s.up,d,⟨s.peer.id,ep,l,s.peer.done⟩,s.tree,s.watches⟩,0)∧UpOk ⟨s.up,d,⟨s.peer.id,ep,l,s.peer.done⟩,s.tree,s.watches⟩ (some (epB ep)) l.length:=by
 obtain ⟨k1,k2⟩:=js l s.peer.log
 have ke:=lR l s.peer.log
 have hd0:=h.d0
 unfold aF
 generalize bf l s.peer.log=k at k1 k2 ke hm hd ⊢
 have hkeep:keepD s.disk.files (fc l k)=(⟨mkD e (encs (s.peer.log.take k)) []⟩,0):=by
  rw [h.disk,Iz h.okD,fv,h.scan]
  simp only
  rw [ut h.log k k2]
  unfold fc
  split
  ·exact (ke (k-1) (by omega)).symm
  ·rfl
 have hsm:(encs (s.peer.log.take k)).length≤1048576:=Nat.le_trans (iy _ _) h.small
 have hrem:=xq (ep:=ep) h0 h1 (e:=e) (s:=encs (s.peer.log.take k)) (t:=[]) ⟨h.elen,by simpa using hsm⟩
 rw [if_neg (by omega),hkeep,if_neg (fun h=>h rfl),hrem,if_neg (fun h=>h rfl)]
 have hep:=u4 h0 h1
 have hu:UpOk ⟨s.up,⟨mkD (some (epB ep)) (encs (s.peer.log.take k)) []⟩,⟨s.peer.id,ep,s.peer.log.take k,s.peer.done⟩,s.tree,s.watches⟩ (some (epB ep)) (s.peer.log.take k).length:=by
  refine ⟨h.up,?_,Nat.le_refl _,mw h.log k,hsm,fun x hx=>by injection hx with hx;subst hx;omega,hd0,?_,?_,?_⟩
  ·simp only;rw [List.take_length,List.drop_length,fe]
  ·simp only;rw [List.length_take];omega
  ·simp only;rw [List.take_take,Nat.min_eq_left (by omega)];exact h.tree
  ·obtain ⟨v,hv⟩:=h.play;exact jt hv k
 have hj:s.peer.log.take k++l.drop k=l:=by rw [←hm,List.take_append_drop]
 obtain ⟨d,q1,q2⟩:=UpOk.takes (l.drop k) hu (by simp only;rw [hj];exact ho) (by simp only;rw [hj];exact hl) (by simp only;rw [hj];exact hp)
 simp only at q1 q2
 rw [hj] at q1 q2
 exact ⟨d,q1,q2⟩
structure AWorld where
 sv:List AServer
 cl:List AClient
 leader:Int
 fl:List Bool
 done:List ATxn
 deeds:Int
namespace AWorld
def s (w:AWorld) (i:Nat):AServer:=w.sv.getD i default
def c (w:AWorld) (i:Nat):AClient:=w.cl.getD i default
def f (w:AWorld) (i:Nat):Bool:=w.fl.getD i false
def setS (w:AWorld) (i:Nat) (s:AServer):AWorld:={ w with sv:=w.sv.set i s }
def setC (w:AWorld) (i:Nat) (c:AClient):AWorld:={ w with cl:=w.cl.set i c }
def setF (w:AWorld) (i:Nat) (b:Bool):AWorld:={ w with fl:=w.fl.set i b }
def resign (w:AWorld):AWorld:={ w with leader:=-1,fl:=[false,false,false] }
end AWorld
def dQ:AWorld:=⟨(List.range 3).map fun (i:Nat)=>(cK (i:Int) []).1,(List.range 16).map fun (i:Nat)=>⟨(i:Int)+1,0,[]⟩,-1,[false,false,false],[],0⟩
def noR (e:Int):AReply:=⟨e,0,[],[],default,[]⟩
def su (n:Int) (i:Nat):Bool:=decide ((n/2^i)%2=1)
def gW (w:AWorld) (i:Nat) (keep:Int):AWorld×AReply:=
 if (w.s i).up=false then (w,noR 14) else
 if (bL (w.s i) keep).2≠0 then (w,noR (bL (w.s i) keep).2) else
 (if w.leader=i then ((w.setS i (bL (w.s i) keep).1).setF i false).resign else (w.setS i (bL (w.s i) keep).1).setF i false,noR 0)
def upW (w:AWorld) (i:Nat):AWorld×AReply:=
 if (w.s i).up=true then (w,noR 8) else
 if (cK i (w.s i).disk.files).2≠0 then (w,noR (cK i (w.s i).disk.files).2) else
 (w.setS i (cK i (w.s i).disk.files).1,noR 0)
def eF (w:AWorld) (ns:List ANote):AWorld:={ w with cl:=w.cl.map fun c=>⟨c.session,c.seen,dZ c.session c.cache ns⟩ }
def bo (l:List ATxn) (ep:Int):List Nat→AWorld→List ANote→AWorld×List ANote×Int
 |[],w,ns=>(w,ns,0)
 | i::r,w,ns=>
   if (w.s i).up=false then bo l ep r w ns else
   if (aF (w.s i) l ep).2≠0 then (w,ns,(aF (w.s i) l ep).2) else
   if (ax (aF (w.s i) l ep).1 l.length).2.2≠0 then (w,ns,(ax (aF (w.s i) l ep).1 l.length).2.2) else
   bo l ep r ((w.setS i (ax (aF (w.s i) l ep).1 l.length).1).setF i true) (ns++(ax (aF (w.s i) l ep).1 l.length).2.1)
def bt (w:AWorld):List APeer:=(w.sv.filter fun s=>s.up).map AServer.peer
def dv (w:AWorld):AWorld×AReply:=
 if (bT (bt w)).2.2≠0 then (w,noR (bT (bt w)).2.2) else
 let b:=(bt w).getD (bT (bt w)).1.toNat default
 let r:=bo b.log (bT (bt w)).2.1 [0,1,2] w.resign []
 if r.2.2≠0 then (r.1,noR r.2.2) else
 (eF { r.1 with leader:=b.id } r.2.1,⟨0,az b.log,[],[],default,r.2.1⟩)
def bG (x:ATxn) (lead lost slow:Int):List Nat→AWorld→List Nat→AWorld×List Nat×Int
 |[],w,hv=>(w,hv,0)
 | i::r,w,hv=>
   if w.f i=false then bG x lead lost slow r w hv else
   if ¬ lead=i∧su lost i=true then bG x lead lost slow r (w.setF i false) hv else
   if (bh (w.s i) x (decide (lead=i)||!su slow i)).2≠0 then (w,hv,(bh (w.s i) x (decide (lead=i)||!su slow i)).2) else
   bG x lead lost slow r (w.setS i (bh (w.s i) x (decide (lead=i)||!su slow i)).1) (if decide (lead=i)||!su slow i then hv++[i] else hv)
def ba:List Nat→AWorld→List ANote→AWorld×List ANote×Int
 |[],w,ns=>(w,ns,0)
 | i::r,w,ns=>
   if (ax (w.s i) (w.s i).peer.log.length).2.2≠0 then (w,ns,(ax (w.s i) (w.s i).peer.log.length).2.2) else
   ba r (w.setS i (ax (w.s i) (w.s i).peer.log.length).1) (ns++(ax (w.s i) (w.s i).peer.log.length).2.1)
def lJ (w:AWorld) (who:Nat) (x:ATxn) (hv:List Nat):AWorld×AReply:=
 let r:=ba hv w []
 if r.2.2≠0 then (r.1,noR r.2.2) else
 let u:=eF { r.1 with done:=r.1.done++[x] } r.2.1
 if (gI (u.c who) x.zxid).2≠0 then (u,noR (gI (u.c who) x.zxid).2) else
 (u.setC who (gI (u.c who) x.zxid).1,⟨0,x.zxid,x.path,[],(aX (u.s u.leader.toNat).tree x.path).1.stat,r.2.1⟩)
def kE (w:AWorld) (d:ADeed):ARequest:=⟨d.request.op,(w.c d.client.toNat).session,d.request.path,d.request.data,d.request.version,d.request.flags⟩
def d6 (w:AWorld) (d:ADeed):AWorld×AReply:=
 if d.client<0∨16≤d.client then (w,noR 3) else
 if w.leader<0 then (w,noR 14) else
 if (dC (w.s w.leader.toNat).peer).2≠0 then (w,noR (dC (w.s w.leader.toNat).peer).2) else
 let p:=cr (w.s w.leader.toNat).tree (dC (w.s w.leader.toNat).peer).1 (kE w d)
 if p.2≠0 then (w,noR p.2) else
 let r:=bG p.1 w.leader d.lost d.slow [0,1,2] w []
 if r.2.2≠0 then (r.1,noR r.2.2) else
 if r.2.1.length<2 then (r.1.resign,⟨16,p.1.zxid,[],[],default,[]⟩) else
 lJ r.1 d.client.toNat p.1 r.2.1
def iO (w:AWorld) (d:ADeed):AWorld×AReply:=
 if d.client<0∨16≤d.client∨d.server<0∨3≤d.server then (w,noR 3) else
 let i:=d.server.toNat
 let k:=d.client.toNat
 if (w.s i).up=false then (w,noR 14) else
 if (gI (w.c k) (w.s i).tree.zxid).2≠0 then (w,noR (gI (w.c k) (w.s i).tree.zxid).2) else
 let c:=(gI (w.c k) (w.s i).tree.zxid).1
 let n:=aX (w.s i).tree d.request.path
 if d.watch=true then
  let a:=jj (w.s i).watches ⟨c.session,1,d.request.path⟩
  if a.2≠0 then (w,noR a.2) else
  ((w.setS i { w.s i with watches:=a.1 }).setC k ⟨c.session,c.seen,iz c.cache ⟨d.request.path,n.1.data,decide (n.2=0)⟩⟩,
   ⟨n.2,(w.s i).tree.zxid,n.1.path,n.1.data,n.1.stat,[]⟩)
 else (w.setC k c,⟨n.2,(w.s i).tree.zxid,n.1.path,n.1.data,n.1.stat,[]⟩)
def pC (w:AWorld) (d:ADeed):AWorld×AReply:=
 if d.kind=1 then d6 w d else if d.kind=2 then iO w d else if d.kind=5 then dv w else
 if d.kind=3∨d.kind=4 then
  if d.server<0∨3≤d.server then (w,noR 3) else if d.kind=4 then upW w d.server.toNat else gW w d.server.toNat d.keep
 else (w,noR 4)
def doW (w:AWorld) (d:ADeed):AWorld×AReply:=
 if 300≤w.deeds then (w,noR 6) else pC { w with deeds:=w.deeds+1 } d
structure Gh where
 D:List ATxn
 a:Nat
 E:Int
def Two (P:Nat→Prop):Prop:=∃ i j,i<3∧j<3∧i≠j∧P i∧P j
theorem Two.mono {P Q:Nat→Prop} (h:Two P) (hq:∀ i,i<3→P i→Q i):Two Q:=by
 obtain ⟨i,j,h1,h2,h3,h4,h5⟩:=h
 exact ⟨i,j,h1,h2,h3,hq i h1 h4,hq j h2 h5⟩
theorem Two.meet {P Q:Nat→Prop} (h:Two P) (h2:Two Q):∃ i,i<3∧P i∧Q i:=by
 obtain ⟨i,j,a1,a2,a3,a4,a5⟩:=h
 obtain ⟨k,m,b1,b2,b3,b4,b5⟩:=h2
 by_cases e1:i=k
 ·subst e1;exact ⟨i,a1,a4,b4⟩
 by_cases e2:i=m
 ·subst e2;exact ⟨i,a1,a4,b5⟩
 by_cases e3:j=k
 ·subst e3;exact ⟨j,a2,a5,b4⟩
 have e4:j=m:=by omega
 subst e4;exact ⟨j,a2,a5,b5⟩
def Old (ld es:Int) (L:List ATxn) (n:Nat) (z:Int):Prop:=0≤z∧z/2147483648≤es∧z%2147483648≤n∧(0≤ld→z/2147483648<es∨z≤az L)
structure Pr (g:Nat→Gh) (ld es:Int) (K:List ATxn) (n:Nat):Prop where
 log:∀ j,j<3→logOk (g j).D
 al:∀ j,j<3→(g j).a≤(g j).D.length
 pos:∀ j,j<3→∀ x,x∈(g j).D→0<x.zxid
 old:∀ j,j<3→∀ x,x∈(g j).D→Old ld es (g ld.toNat).D n x.zxid
 es0:0≤es
 esn:es≤n
 E0:∀ j,j<3→0≤(g j).E∧(g j).E≤n
 q:Two fun j=>es≤(g j).E
 one:∀ i j,i<3→j<3→∀ x y,x∈(g i).D→y∈(g j).D→x.zxid=y.zxid→x=y
 k1:Two fun j=>K <+: (g j).D∧K.length≤(g j).a
 k2:∀ j,j<3→az K≤az (g j).D→K <+: (g j).D
 k3:0≤ld→K <+: (g ld.toNat).D
 ld0:0≤ld→ld<3∧(g ld.toNat).E=es
def upd (g:Nat→Gh) (j:Nat) (x:Gh):Nat→Gh:=fun i=>if i=j then x else g i
theorem cV (g:Nat→Gh) (j:Nat) (x:Gh):upd g j x j=x:=by unfold upd;rw [if_pos rfl]
theorem bJ (g:Nat→Gh) {j i:Nat} (x:Gh) (h:i≠j):upd g j x i=g i:=by unfold upd;rw [if_neg h]
theorem eU {l:List ATxn} (h:l≠[]):∃ x,x∈l∧x.zxid=az l:=by
 have hp:=List.length_pos_iff.2 h
 exact ⟨_,bU l (l.length-1) (by omega),(dK hp).symm⟩
theorem mJ {l:List ATxn} (h:logOk l) {x:ATxn} (hx:x∈l):x.zxid≤az l:=by
 obtain ⟨k,hk,rfl⟩:=List.getElem_of_mem hx
 rw [dK (by omega)]
 have e:l[k]=l.getD k default:=by rw [List.getD_eq_getElem?_getD,List.getElem?_eq_getElem hk];rfl
 rw [e]
 by_cases h2:k=l.length-1
 ·subst h2;exact Int.le_refl _
 ·exact Int.le_of_lt (gJ h (by omega) (by omega))
theorem d9 {l:List ATxn} (h:∀ x,x∈l→0<x.zxid):0≤az l:=by
 by_cases e:l=[]
 ·subst e;exact Int.le_refl _
 ·obtain ⟨x,h1,h2⟩:=eU e
  have:=h x h1;omega
theorem zM {l:List ATxn} (h:logOk l) (hp:∀ x,x∈l→0<x.zxid) (k:Nat):az (l.take k)≤az l:=by
 by_cases e:l.take k=[]
 ·rw [e];exact d9 hp
 ·obtain ⟨x,h1,h2⟩:=eU e
  rw [←h2];exact mJ h (List.mem_of_mem_take h1)
theorem DO {l K:List ATxn} (h:logOk l) (hp:∀ x,x∈l→0<x.zxid) (hK:K <+: l) {k:Nat} (hz:az K≤az (l.take k)):K <+: l.take k:=by
 have e:=List.prefix_iff_eq_take.1 hK
 have hl:=hK.length_le
 refine List.prefix_iff_eq_take.2 ?_
 by_cases hk:K.length≤k
 ·rw [List.take_take,Nat.min_eq_left hk];exact e
 ·exfalso
  have hK0:0<K.length:=by omega
  have z1:az K=(l.getD (K.length-1) default).zxid:=by
   obtain ⟨t,ht⟩:=hK
   rw [←ht,dK hK0,List.getD_eq_getElem?_getD,List.getD_eq_getElem?_getD,List.getElem?_append_left (by omega)]
  by_cases hk0:0<k
  ·have hlen:(l.take k).length=k:=by rw [List.length_take];omega
   have z2:az (l.take k)=(l.getD (k-1) default).zxid:=by
    rw [dK (by omega),hlen,List.getD_eq_getElem?_getD,List.getElem?_take,if_pos (by omega),←List.getD_eq_getElem?_getD]
   have:=gJ h (i:=k-1) (j:=K.length-1) (by omega) (by omega)
   omega
  ·have hk':k=0:=by omega
   subst hk'
   rw [List.take_zero,gu,z1] at hz
   have:=hp _ (bU l (K.length-1) (by omega))
   omega
theorem Old.gone {ld es:Int} {L:List ATxn} {n:Nat} {z:Int} (h:Old ld es L n z) (L2:List ATxn):Old (-1) es L2 n z:=⟨h.1,h.2.1,h.2.2.1,fun h=>absurd h (by decide)⟩
theorem Old.up {ld es:Int} {L:List ATxn} {n m:Nat} {z:Int} (h:Old ld es L n z) (hm:n≤m):Old ld es L m z:=⟨h.1,h.2.1,by have:=h.2.2.1;omega,h.2.2.2⟩
theorem Old.lead {ld es:Int} {L:List ATxn} {n:Nat} {z:Int} (h:Old ld es L n z) {b ep:Int} (he:es<ep) (L2:List ATxn):Old b ep L2 n z:=⟨h.1,by have:=h.2.1;omega,h.2.2.1,fun _=>.inl (by have:=h.2.1;omega)⟩
theorem Old.more {ld es:Int} {L:List ATxn} {n:Nat} {z:Int} (h:Old ld es L n z) {L2:List ATxn} (hl:az L≤az L2):Old ld es L2 n z:=⟨h.1,h.2.1,h.2.2.1,fun h0=>(h.2.2.2 h0).imp id fun h1=>by omega⟩
theorem Pr.mono {g:Nat→Gh} {ld es:Int} {K:List ATxn} {n m:Nat} (h:Pr g ld es K n) (hm:n≤m):Pr g ld es K m:=
 { h with
   old:=fun j hj x hx=>(h.old j hj x hx).up hm
   esn:=by have:=h.esn;omega
   E0:=fun j hj=>⟨(h.E0 j hj).1,by have:=(h.E0 j hj).2;omega⟩ }
theorem Pr.resign {g:Nat→Gh} {ld es:Int} {K:List ATxn} {n:Nat} (h:Pr g ld es K n):Pr g (-1) es K n:=
 { h with
   old:=fun j hj x hx=>(h.old j hj x hx).gone _
   k3:=fun h=>absurd h (by decide)
   ld0:=fun h=>absurd h (by decide) }
theorem Pr.cut {g:Nat→Gh} {ld es:Int} {K:List ATxn} {n:Nat} (h:Pr g ld es K n) {j:Nat} (hj:j<3) (hd:0≤ld→ld.toNat≠j) {k:Nat} (h1:(g j).a≤k) (h2:k≤(g j).D.length):Pr (upd g j ⟨(g j).D.take k,k,(g j).E⟩) ld es K n:=by
 have hm:∀ i,i<3→∀ x,x∈(upd g j ⟨(g j).D.take k,k,(g j).E⟩ i).D→x∈(g i).D:=fun i hi x hx=>by
  by_cases e:i=j
  ·subst e;rw [cV] at hx;exact List.mem_of_mem_take hx
  ·rwa [bJ _ _ e] at hx
 have hE:∀ i,(upd g j ⟨(g j).D.take k,k,(g j).E⟩ i).E=(g i).E:=fun i=>by
  by_cases e:i=j
  ·subst e;rw [cV]
  ·rw [bJ _ _ e]
 have hO:∀ {z:Int},Old ld es (g ld.toNat).D n z→Old ld es (upd g j ⟨(g j).D.take k,k,(g j).E⟩ ld.toNat).D n z:=fun {z} hz=>by
  by_cases e:0≤ld
  ·rw [bJ _ _ (hd e)];exact hz
  ·exact ⟨hz.1,hz.2.1,hz.2.2.1,fun h0=>absurd h0 e⟩
 refine ⟨fun i hi=>?_,fun i hi=>?_,fun i hi x hx=>h.pos i hi x (hm i hi x hx),fun i hi x hx=>hO (h.old i hi x (hm i hi x hx)),h.es0,h.esn,fun i hi=>by rw [hE];exact h.E0 i hi,h.q.mono fun i _ hi=>by rw [hE];exact hi,
  fun i i2 hi hi2 x y hx hy=>h.one i i2 hi hi2 x y (hm i hi x hx) (hm i2 hi2 y hy),h.k1.mono fun i hi hk=>?_,fun i hi hz=>?_,fun h0=>by rw [bJ _ _ (hd h0)];exact h.k3 h0,fun h0=>by rw [hE];exact h.ld0 h0⟩
 ·by_cases e:i=j
  ·subst e;rw [cV];exact mw (h.log i hi) k
  ·rw [bJ _ _ e];exact h.log i hi
 ·by_cases e:i=j
  ·subst e;rw [cV];simp only;rw [List.length_take];omega
  ·rw [bJ _ _ e];exact h.al i hi
 ·by_cases e:i=j
  ·subst e;rw [cV]
   refine ⟨?_,by simp only;omega⟩
   have e2:=List.prefix_iff_eq_take.1 hk.1
   refine List.prefix_iff_eq_take.2 ?_
   simp only
   rw [List.take_take,Nat.min_eq_left (by omega)];exact e2
  ·rw [bJ _ _ e];exact hk
 ·by_cases e:i=j
  ·subst e;rw [cV] at hz ⊢
   exact DO (h.log i hi) (h.pos i hi) (h.k2 i hi (Int.le_trans hz (zM (h.log i hi) (h.pos i hi) k))) hz
  ·rw [bJ _ _ e] at hz ⊢;exact h.k2 i hi hz
theorem Pr.follow {g:Nat→Gh} {es:Int} {K:List ATxn} {n:Nat} (h:Pr g (-1) es K n) {j b:Nat} (hj:j<3) (hb:b<3) (hK:K <+: (g b).D) {ep:Int} (h1:es<ep) (h2:ep≤n):Pr (upd g j ⟨(g b).D,(g b).D.length,ep⟩) (-1) es K n:=by
 have hm:∀ i,i<3→∃ i2,i2<3∧(upd g j ⟨(g b).D,(g b).D.length,ep⟩ i).D=(g i2).D:=fun i hi=>by
  by_cases e:i=j
  ·subst e;rw [cV];exact ⟨b,hb,rfl⟩
  ·rw [bJ _ _ e];exact ⟨i,hi,rfl⟩
 refine ⟨fun i hi=>?_,fun i hi=>?_,fun i hi x hx=>?_,fun i hi x hx=>?_,h.es0,h.esn,fun i hi=>?_,h.q.mono fun i _ hi=>?_,fun i i2 hi hi2 x y hx hy=>?_,h.k1.mono fun i hi hk=>?_,fun i hi hz=>?_,fun h0=>absurd h0 (by decide),fun h0=>absurd h0 (by decide)⟩
 ·obtain ⟨m,q1,q2⟩:=hm i hi;rw [q2];exact h.log m q1
 ·by_cases e:i=j
  ·subst e;rw [cV];exact Nat.le_refl _
  ·rw [bJ _ _ e];exact h.al i hi
 ·obtain ⟨m,q1,q2⟩:=hm i hi;rw [q2] at hx;exact h.pos m q1 x hx
 ·obtain ⟨m,q1,q2⟩:=hm i hi;rw [q2] at hx;exact (h.old m q1 x hx).gone _
 ·by_cases e:i=j
  ·subst e;rw [cV];have:=h.es0;exact ⟨by simp only;omega,h2⟩
  ·rw [bJ _ _ e];exact h.E0 i hi
 ·by_cases e:i=j
  ·subst e;rw [cV];exact Int.le_of_lt h1
  ·rw [bJ _ _ e];exact hi
 ·obtain ⟨m,q1,q2⟩:=hm i hi;obtain ⟨m2,q3,q4⟩:=hm i2 hi2
  rw [q2] at hx;rw [q4] at hy;exact h.one m m2 q1 q3 x y hx hy
 ·by_cases e:i=j
  ·subst e;rw [cV];exact ⟨hK,hK.length_le⟩
  ·rw [bJ _ _ e];exact hk
 ·by_cases e:i=j
  ·subst e;rw [cV];exact hK
  ·rw [bJ _ _ e] at hz ⊢;exact h.k2 i hi hz
theorem Pr.lead {g:Nat→Gh} {es:Int} {K:List ATxn} {n:Nat} (h:Pr g (-1) es K n) {ep:Int} (h1:es<ep) (h2:ep≤n) (hq:Two fun j=>ep≤(g j).E) {b:Nat} (hb:b<3) (hE:(g b).E=ep) (hK:K <+: (g b).D):Pr g b ep K n:=
 { h with
   old:=fun j hj x hx=>(h.old j hj x hx).lead h1 _
   es0:=by have:=h.es0;omega
   esn:=h2
   q:=hq
   k3:=fun _=>hK
   ld0:=fun _=>⟨by omega,hE⟩ }
theorem Pr.best {g:Nat→Gh} {ld es:Int} {K:List ATxn} {n:Nat} (h:Pr g ld es K n) {U:Nat→Prop} (hU:Two U) {b:Nat} (hb:b<3) (hm:∀ j,j<3→U j→az (g j).D≤az (g b).D):K <+: (g b).D:=by
 obtain ⟨i,h1,h2,h3⟩:=hU.meet h.k1
 refine h.k2 b hb (Int.le_trans ?_ (hm i h1 h2))
 by_cases e:K=[]
 ·subst e;exact d9 (h.pos i h1)
 ·obtain ⟨x,q1,q2⟩:=eU e
  rw [←q2];exact mJ (h.log i h1) (h3.1.subset q1)
theorem Pr.epoch {g:Nat→Gh} {ld es:Int} {K:List ATxn} {n:Nat} (h:Pr g ld es K n) {U:Nat→Prop} (hU:Two U) {ep:Int} (hm:∀ j,j<3→U j→(g j).E<ep):es<ep:=by
 obtain ⟨i,h1,h2,h3⟩:=hU.meet h.q
 have:=hm i h1 h2
 omega
theorem Pr.new {g:Nat→Gh} {ld es:Int} {K:List ATxn} {n:Nat} (h:Pr g ld es K n) (h0:0≤ld) {z:Int} (h1:z/2147483648=es) (h2:az (g ld.toNat).D<z) {j:Nat} (hj:j<3):(∀ y,y∈(g j).D→y.zxid<z)∧az (g j).D<z:=by
 have ha:∀ y,y∈(g j).D→y.zxid<z:=fun y hy=>by
  rcases (h.old j hj y hy).2.2.2 h0 with h3|h3<;>omega
 refine ⟨ha,?_⟩
 by_cases e:(g j).D=[]
 ·have:=d9 (h.pos ld.toNat (by have:=h.ld0 h0;omega))
  rw [e,gu];omega
 ·obtain ⟨x,q1,q2⟩:=eU e
  rw [←q2];exact ha x q1
theorem Pr.took {g g':Nat→Gh} {ld es:Int} {K:List ATxn} {n:Nat} (h:Pr g ld es K n) (h0:0≤ld) {x:ATxn} (hx:aN x=0) (h1:x.zxid/2147483648=es) (h2:az (g ld.toNat).D<x.zxid) (h3:x.zxid%2147483648≤n)
  (hT:∀ j,j<3→((g j).D=(g ld.toNat).D∧(g' j).D=(g ld.toNat).D++[x]∧(g j).a≤(g' j).a∧(g' j).a≤(g' j).D.length)∨((g' j).D=(g j).D∧(g' j).a=(g j).a)) (hE:∀ j,j<3→(g' j).E=(g j).E):Pr g' (-1) es K n:=by
 have hld:=h.ld0 h0
 have hl3:ld.toNat<3:=by omega
 have hz0:=d9 (h.pos ld.toNat hl3)
 have hm:∀ j,j<3→∀ y,y∈(g' j).D→y=x∨y∈(g j).D:=fun j hj y hy=>by
  rcases hT j hj with ⟨a1,a2,_⟩|⟨a1,_⟩
  ·rw [a2] at hy;rw [a1]
   rcases List.mem_append.1 hy with q|q
   ·exact .inr q
   ·exact .inl (List.mem_singleton.1 q)
  ·rw [a1] at hy;exact .inr hy
 refine ⟨fun j hj=>?_,fun j hj=>?_,fun j hj y hy=>?_,fun j hj y hy=>?_,h.es0,h.esn,fun j hj=>by rw [hE j hj];exact h.E0 j hj,h.q.mono fun j hj hi=>by rw [hE j hj];exact hi,fun i j hi hj y v hy hv e=>?_,h.k1.mono fun j hj hk=>?_,fun j hj hz=>?_,fun h0=>absurd h0 (by decide),fun h0=>absurd h0 (by decide)⟩
 ·rcases hT j hj with ⟨a1,a2,_⟩|⟨a1,_⟩
  ·rw [a2];exact ju (h.log _ hl3) (fun _=>h2) hx
  ·rw [a1];exact h.log j hj
 ·rcases hT j hj with ⟨a1,a2,a3,a4⟩|⟨a1,a2⟩
  ·exact a4
  ·rw [a1,a2];exact h.al j hj
 ·rcases hm j hj y hy with rfl|q
  ·omega
  ·exact h.pos j hj y q
 ·rcases hm j hj y hy with rfl|q
  ·exact ⟨by omega,by omega,h3,fun h=>absurd h (by decide)⟩
  ·exact (h.old j hj y q).gone _
 ·rcases hm i hi y hy with rfl|q<;>rcases hm j hj v hv with rfl|q2
  ·rfl
  ·have:=(h.new h0 h1 h2 hj).1 v q2;omega
  ·have:=(h.new h0 h1 h2 hi).1 y q;omega
  ·exact h.one i j hi hj y v q q2 e
 ·rcases hT j hj with ⟨a1,a2,a3,a4⟩|⟨a1,a2⟩
  ·rw [a2];rw [a1] at hk;exact ⟨hk.1.trans (List.prefix_append _ _),by omega⟩
  ·rw [a1,a2];exact hk
 ·rcases hT j hj with ⟨a1,a2,a3,a4⟩|⟨a1,a2⟩
  ·rw [a2];exact (h.k3 h0).trans (List.prefix_append _ _)
  ·rw [a1] at hz ⊢;exact h.k2 j hj hz
theorem Pr.ackd {g g':Nat→Gh} {ld es:Int} {K:List ATxn} {n:Nat} (h:Pr g ld es K n) (h0:0≤ld) {x:ATxn} (hx:aN x=0) (h1:x.zxid/2147483648=es) (h2:az (g ld.toNat).D<x.zxid) (h3:x.zxid%2147483648≤n)
  (hT:∀ j,j<3→((g j).D=(g ld.toNat).D∧(g' j).D=(g ld.toNat).D++[x]∧(g j).a≤(g' j).a∧(g' j).a≤(g' j).D.length)∨((g' j).D=(g j).D∧(g' j).a=(g j).a)) (hE:∀ j,j<3→(g' j).E=(g j).E)
  (hl:(g' ld.toNat).D=(g ld.toNat).D++[x]) (hs:Two fun j=>(g' j).D=(g ld.toNat).D++[x]∧(g' j).a=(g' j).D.length):Pr g' ld es ((g ld.toNat).D++[x]) n:=by
 have hld:=h.ld0 h0
 have hl3:ld.toNat<3:=by omega
 have hz0:=d9 (h.pos ld.toNat hl3)
 have hq:=h.took h0 hx h1 h2 h3 hT hE
 have hj:∀ j,j<3→(g' j).D=(g ld.toNat).D++[x]∨(g' j).D=(g j).D:=fun j hj=>(hT j hj).imp (fun a=>a.2.1) (fun a=>a.1)
 refine { hq with old:=fun j h4 y hy=>?_,k1:=hs.mono fun j _ hi=>⟨by rw [hi.1];exact List.prefix_refl _,by rw [hi.2,hi.1];exact Nat.le_refl _⟩,k2:=fun j h4 hz=>?_,k3:=fun _=>by rw [hl];exact List.prefix_refl _,ld0:=fun _=>⟨hld.1,by rw [hE _ hl3];exact hld.2⟩ }
 ·have ho:=hq.old j h4 y hy
  refine ⟨ho.1,ho.2.1,ho.2.2.1,fun _=>.inr ?_⟩
  rw [hl,fw]
  rcases hj j h4 with e|e
  ·rw [e] at hy
   have:=mJ (ju (h.log _ hl3) (fun _=>h2) hx) hy
   rwa [fw] at this
  ·rw [e] at hy
   exact Int.le_of_lt ((h.new h0 h1 h2 h4).1 y hy)
 ·rcases hj j h4 with e|e
  ·rw [e];exact List.prefix_refl _
  ·rw [e,fw] at hz
   have:=(h.new h0 h1 h2 h4).2
   omega
theorem Pr.start:Pr (fun _=>⟨[],0,0⟩) (-1) 0 [] 0:=by
 refine ⟨fun _ _=>kV,fun _ _=>Nat.le_refl _,fun _ _ _ h=>(by cases h),fun _ _ _ h=>(by cases h),Int.le_refl _,Int.le_refl _,fun _ _=>⟨Int.le_refl _,Int.le_refl _⟩,⟨0,1,by decide,by decide,by decide,Int.le_refl _,Int.le_refl _⟩,fun _ _ _ _ _ _ h=>(by cases h),⟨0,1,by decide,by decide,by decide,⟨List.prefix_refl _,Nat.le_refl _⟩,⟨List.prefix_refl _,Nat.le_refl _⟩⟩,fun _ _ _=>List.prefix_refl _,fun _=>List.prefix_refl _,fun h=>absurd h (by decide)⟩
theorem AL {p:APeer} {es:Int} {n:Nat} (hn:n<1000000) (h0:0≤es) (h1:es≤n) (hE:p.epoch=es) (hz0:0≤az p.log) (hz1:az p.log/2147483648≤es) (hz2:az p.log%2147483648≤n) :
  (dC p).2=0∧(dC p).1/2147483648=es∧(dC p).1%2147483648≤n+1∧az p.log<(dC p).1:=by
 have hg:bR (az p.log):=by unfold bR;omega
 have he:epZ (az p.log)=az p.log/2147483648:=by unfold epZ;rw [if_pos hg]
 have hmk:mkZ es 0=(es*2147483648,0):=(kP h0 (by omega)).1
 have hg2:bR (es*2147483648):=(kP h0 (by omega)).2.1
 unfold dC
 rw [he,hE,hmk]
 by_cases hlt:az p.log/2147483648<es
 ·rw [if_pos hlt,if_neg (fun h=>h rfl)]
  unfold lz
  rw [if_pos hg2,if_neg (by simp only;omega)]
  exact ⟨rfl,by simp only;omega,by simp only;omega,by simp only;omega⟩
 ·rw [if_neg hlt]
  unfold lz
  rw [if_pos hg,if_neg (by omega)]
  exact ⟨rfl,by simp only;omega,by simp only;omega,by simp only;omega⟩
theorem Ds:recoverD []=([],⟨mkD none [] []⟩,0):=by decide +kernel
theorem ou:∀ {l:List ATxn} {t v:ATree},aI t=true→bO t l=some v→aI v=true
 |[],t,v,hg,h=>by injection h with h;subst h;exact hg
 | x::r,t,v,hg,h=>by
   rw [bO] at h
   split at h
   ·rename_i he;exact ou (pU he) h
   ·cases h
theorem sZ:∀ {l:List ATxn} {t v:ATree},bO t l=some v→v.zxid=if l=[] then t.zxid else az l
 |[],t,v,h=>by injection h with h;subst h;rfl
 | x :: r,t,v,h=>by
   rw [bO] at h
   split at h
   ·rename_i he
    have h2:=sZ h
    have h3:(ar t x).1.zxid=x.zxid:=by
     have h0:cS t x=0:=by
      apply Classical.byContradiction;intro hw
      rw [mT hw] at he;exact hw he
     have hb:(dk t x).1.nodes.any gZ=false:=by
      apply Classical.byContradiction;intro hb
      rw [eL h0 (by simpa using hb)] at he;cases he
     rw [gS h0 hb]
     unfold dk
     repeat' split
     all_goals rfl
    rw [if_neg (List.cons_ne_nil x r),h2]
    by_cases e:r=[]
    ·subst e;rw [if_pos rfl,h3];rfl
    ·rw [if_neg e,dK (List.length_pos_iff.2 e),dK (by simp)]
     have:=List.length_pos_iff.2 e
     rw [List.length_cons,show r.length+1-1=(r.length-1)+1 from by omega,List.getD_cons_succ]
   ·cases h
def Jf (e:Option (List UInt8)) (E:Int):Prop:=(e=none∧E=0)∨(e=some (epB E)∧0≤E∧E≤2147483647)
theorem Jf.read {e:Option (List UInt8)} {E:Int} (h:Jf e E) {s t:List UInt8} (hl:s.length+t.length≤1048576):gy (mkD e s t)=E:=by
 rcases h with ⟨rfl,rfl⟩|⟨rfl,h0,h1⟩
 ·exact yX hl
 ·exact GK h0 h1 hl
def SvUp (s:AServer) (g:Gh):Prop:=∃ e,Jf e g.E∧UpOk s e g.a∧s.peer.log=g.D∧s.peer.epoch=g.E
def J5 (s:AServer) (g:Gh):Prop:=∃ e,Jf e g.E∧DownOk s e g.D∧g.a=g.D.length
def gL (s:AServer) (g:Gh) (j:Nat):Prop:=s.peer.id=j∧(s.up=true→SvUp s g)∧(s.up=false→J5 s g)
theorem UpOk.posZ {s:AServer} {e:Option (List UInt8)} {a:Nat} (h:UpOk s e a):0≤s.tree.zxid∧s.tree.zxid≤az s.peer.log∧(s.tree.zxid=0∨∃ x,x∈s.peer.log∧x.zxid=s.tree.zxid):=by
 have hz:=sZ h.tree
 have h0:∀ x,x∈s.peer.log→0≤x.zxid:=fun x hx=>(eX (h.log.2 x hx)).1.1
 have hl0:0≤az s.peer.log:=by
  by_cases e:s.peer.log=[]
  ·rw [e];exact Int.le_refl _
  ·obtain ⟨x,q1,q2⟩:=eU e
   have:=h0 x q1;omega
 by_cases e:s.peer.log.take s.peer.done.toNat=[]
 ·rw [if_pos e] at hz
  have:t00.zxid=0:=by decide
  rw [hz,this];exact ⟨Int.le_refl _,hl0,.inl rfl⟩
 ·rw [if_neg e] at hz
  obtain ⟨x,q1,q2⟩:=eU e
  have hx:=List.mem_of_mem_take q1
  rw [hz,←q2]
  exact ⟨h0 x hx,mJ h.log hx,.inr ⟨x,hx,rfl⟩⟩
theorem Ey {s:AServer} {g:Gh} {j:Nat} (h:gL s g j) (hu:s.up=true) {keep:Int} (hc:(bL s keep).2=0):∃ k,g.a≤k∧k≤g.D.length∧gL (bL s keep).1 ⟨g.D.take k,k,g.E⟩ j∧(bL s keep).1.up=false:=by
 obtain ⟨hid,h1,_⟩:=h
 obtain ⟨e,he,hk,hl,_⟩:=h1 hu
 have h0:0≤keep:=by
  apply Classical.byContradiction;intro hn
  have hcd:fy s.disk.files keep=(default,3):=by unfold fy;rw [if_pos (.inr (by omega))]
  unfold bL at hc
  rw [hcd,if_neg (by decide)] at hc;cases hc
 obtain ⟨k,k1,k2,k3,k4,k5⟩:=hk.crash h0
 rw [hl] at k2 k4
 refine ⟨k,k1,k2,⟨by rw [k5,hid],fun hf=>(by rw [k4.up] at hf;cases hf),fun _=>⟨e,he,k4,by show k=(g.D.take k).length;rw [List.length_take];omega⟩⟩,k4.up⟩
theorem HY {s:AServer} {g:Gh} {j:Nat} (h:gL s g j) (hu:s.up=false) (hj:j<3):(cK j s.disk.files).2=0∧gL (cK j s.disk.files).1 g j∧(cK j s.disk.files).1.up=true∧(cK j s.disk.files).1.peer.done=0∧(cK j s.disk.files).1.watches=[]:=by
 obtain ⟨hid,_,h1⟩:=h
 obtain ⟨e,he,hk,ha⟩:=h1 hu
 obtain ⟨c,c1,c2,c3⟩:=hk.disk
 have hr:=hk.recovers
 have hep:gy s.disk.files=g.E:=by rw [c1];exact he.read (by simpa using c2)
 have hb:cK j s.disk.files=(⟨true,⟨mkD e (encs g.D) []⟩,⟨j,g.E,g.D,0⟩,t00,[]⟩,0):=by
  unfold cK
  rw [if_neg (by omega),hr.1,if_neg (fun h=>h rfl),hep]
 rw [hb]
 refine ⟨rfl,⟨rfl,fun _=>⟨e,he,?_,rfl,rfl⟩,fun hf=>(by cases hf)⟩,rfl,rfl,rfl⟩
 rw [ha];exact hk.boot _ _
theorem HM {s:AServer} {g:Gh} {j:Nat} (h:gL s g j) (hu:s.up=true) {x:ATxn} (hx:aN x=0) (hz:az g.D<x.zxid) (hl:(encs g.D).length+(cH x).1.length≤1048576) (hp:∃ v,bO t00 (g.D++[x])=some v) (safe:Bool) :
  (bh s x safe).2=0∧gL (bh s x safe).1 ⟨g.D++[x],if safe then g.D.length+1 else g.a,g.E⟩ j∧(bh s x safe).1.up=true∧(bh s x safe).1.peer.done=s.peer.done∧(bh s x safe).1.watches=s.watches:=by
 obtain ⟨hid,h1,_⟩:=h
 obtain ⟨e,he,hk,hlg,hep⟩:=h1 hu
 rw [←hlg] at hz hl hp
 obtain ⟨d,t1,t2⟩:=hk.take hx hz hl hp safe
 rw [t1]
 refine ⟨rfl,⟨hid,fun _=>⟨e,he,?_,?_,hep⟩,fun hf=>?_⟩,hu,rfl,rfl⟩
 ·rw [hlg] at t2;rw [hlg];exact t2
 ·simp only;rw [hlg]
 ·change s.up=false at hf;rw [hu] at hf;cases hf
theorem ul {s:AServer} {g:Gh} {j:Nat} (h:gL s g j) (hu:s.up=true) {n:Int} (hn1:s.peer.done≤n) (hn2:n≤g.D.length) :
  (ax s n).2.2=0∧gL (ax s n).1 g j∧(ax s n).1.up=true∧(ax s n).1.peer.done=n:=by
 obtain ⟨hid,h1,_⟩:=h
 obtain ⟨e,he,hk,hlg,hep⟩:=h1 hu
 rw [←hlg] at hn2
 obtain ⟨t,w,ns,t1,t2⟩:=hk.commit hn1 hn2
 rw [t1]
 refine ⟨rfl,⟨hid,fun _=>⟨e,he,t2,hlg,hep⟩,fun hf=>?_⟩,hu,rfl⟩
 change s.up=false at hf;rw [hu] at hf;cases hf
theorem By {s:AServer} {g:Gh} {j:Nat} (h:gL s g j) (hu:s.up=true) {l:List ATxn} (ho:logOk l) (hl:(encs l).length≤1048576) (hp:∃ v,bO t00 l=some v) (hone:∀ x y,x∈l→y∈g.D→x.zxid=y.zxid→x=y) {ep:Int} (h0:0≤ep) (h1:ep≤2147483647) :
  ((aF s l ep).2=0→gL (aF s l ep).1 ⟨l,l.length,ep⟩ j∧(aF s l ep).1.up=true∧(aF s l ep).1.peer.done=s.peer.done∧s.peer.done≤l.length∧(aF s l ep).1.watches=s.watches)∧(s.peer.done=0→(aF s l ep).2=0):=by
 obtain ⟨hid,hh,_⟩:=h
 obtain ⟨e,he,hk,hlg,hep⟩:=hh hu
 have hle:=js l s.peer.log
 by_cases hd:s.peer.done≤bf l s.peer.log
 ·have hm:l.take (bf l s.peer.log)=s.peer.log.take (bf l s.peer.log):=by
   apply List.ext_getElem
   ·rw [List.length_take,List.length_take];omega
   ·intro i h2 h3
    rw [List.length_take] at h2 h3
    rw [List.getElem_take,List.getElem_take]
    have hi:=lR l s.peer.log i (by omega)
    rw [List.getD_eq_getElem?_getD,List.getElem?_eq_getElem (by omega),List.getD_eq_getElem?_getD,List.getElem?_eq_getElem (by omega)] at hi
    exact hone _ _ (List.getElem_mem _) (by rw [←hlg];exact List.getElem_mem _) hi
  obtain ⟨d,t1,t2⟩:=hk.follow ho hl hp h0 h1 hm hd
  rw [t1]
  refine ⟨fun _=>⟨⟨hid,fun _=>⟨some (epB ep),.inr ⟨rfl,h0,h1⟩,t2,rfl,rfl⟩,fun hf=>?_⟩,hu,rfl,by omega,rfl⟩,fun _=>rfl⟩
  change s.up=false at hf;rw [hu] at hf;cases hf
 ·have hf:(aF s l ep).2=13:=by unfold aF;rw [if_pos (by omega)]
  rw [hf]
  exact ⟨fun h=>(by cases h),fun h=>(by omega)⟩
theorem wb {l:List ATxn} (h:∀ t,t∈l→aN t=0):(encs l).length≤l.length*487:=by
 induction l with
 |nil=>exact Nat.zero_le _
 | cons x l ih=>
   have h1:=ih fun t ht=>h t (List.mem_cons_of_mem _ ht)
   have h2:=lk (h x (List.mem_cons_self ..))
   have h3:=eX (h x (List.mem_cons_self ..))
   rw [dJ,List.length_append,List.length_cons];omega
structure WInv (w:AWorld) (g:Nat→Gh) (es:Int) (K:List ATxn) (n:Nat):Prop where
 sl:w.sv.length=3
 fl:w.fl.length=3
 cl:w.cl.length=16
 pr:Pr g w.leader es K n
 sv:∀ j,j<3→gL (w.s j) (g j) j
 small:∀ j,j<3→(g j).D.length≤n
 lead:0≤w.leader→w.f w.leader.toNat=true∧(w.s w.leader.toNat).peer.done=(g w.leader.toNat).D.length
 fol:0≤w.leader→∀ j,j<3→w.f j=true→(w.s j).up=true∧(g j).D=(g w.leader.toNat).D
 ack:w.done.Sublist K
 cli:∀ i,i<16→(w.c i).session=(i:Int)+1∧Old w.leader es (g w.leader.toNat).D n (w.c i).seen
theorem nP {α:Type} (l:List α) (i j:Nat) (x d:α) (h:i<l.length):(l.set i x).getD j d=if j=i then x else l.getD j d:=by
 rw [List.getD_eq_getElem?_getD,List.getD_eq_getElem?_getD,List.getElem?_set]
 by_cases e:i=j
 ·subst e;rw [if_pos rfl,if_pos rfl,if_pos h];rfl
 ·rw [if_neg e,if_neg (fun h=>e h.symm)]
theorem ez {w:AWorld} {i:Nat} (h:i<w.sv.length) (s:AServer) (j:Nat):(w.setS i s).s j=if j=i then s else w.s j:=nP _ _ _ _ _ h
theorem nK {w:AWorld} {i:Nat} (h:i<w.fl.length) (b:Bool) (j:Nat):(w.setF i b).f j=if j=i then b else w.f j:=nP _ _ _ _ _ h
theorem E9 {w:AWorld} {i:Nat} (h:i<w.cl.length) (c:AClient) (j:Nat):(w.setC i c).c j=if j=i then c else w.c j:=nP _ _ _ _ _ h
theorem xA (w:AWorld) (j:Nat):w.resign.f j=false:=by
 unfold AWorld.resign AWorld.f
 rcases j with _|_|_|j<;>rfl
theorem WInv.mono {w:AWorld} {g:Nat→Gh} {es:Int} {K:List ATxn} {n m:Nat} (h:WInv w g es K n) (hm:n≤m):WInv w g es K m:=
 { h with pr:=h.pr.mono hm,small:=fun j hj=>Nat.le_trans (h.small j hj) hm,cli:=fun i hi=>⟨(h.cli i hi).1,(h.cli i hi).2.up hm⟩ }
theorem WInv.deeds {w:AWorld} {g:Nat→Gh} {es:Int} {K:List ATxn} {n:Nat} (h:WInv w g es K n) (d:Int):WInv { w with deeds:=d } g es K n:=
 ⟨h.sl,h.fl,h.cl,h.pr,h.sv,h.small,h.lead,h.fol,h.ack,h.cli⟩
theorem WInv.resign {w:AWorld} {g:Nat→Gh} {es:Int} {K:List ATxn} {n:Nat} (h:WInv w g es K n):WInv w.resign g es K n:=
 ⟨h.sl,rfl,h.cl,h.pr.resign,h.sv,h.small,fun h0=>absurd h0 (show ¬ (0:Int)≤-1 by decide),fun h0=>absurd h0 (show ¬ (0:Int)≤-1 by decide),h.ack,fun i hi=>⟨(h.cli i hi).1,(h.cli i hi).2.gone _⟩⟩
theorem WInv.crash {w:AWorld} {g:Nat→Gh} {es:Int} {K:List ATxn} {n:Nat} (h:WInv w g es K n) {i:Nat} (hi:i<3) (keep:Int):∃ g',WInv (gW w i keep).1 g' es K n:=by
 unfold gW
 by_cases hu:(w.s i).up=false
 ·rw [if_pos hu];exact ⟨g,h⟩
 rw [if_neg hu]
 by_cases hc:(bL (w.s i) keep).2=0
 case neg=>rw [if_pos hc];exact ⟨g,h⟩
 rw [if_neg (fun h=>h hc)]
 obtain ⟨k,k1,k2,k3,k4⟩:=Ey (h.sv i hi) (by simpa using hu) hc
 have hsl:=h.sl
 have hfl:=h.fl
 have hsm:=h.small
 have hsv:∀ j,j<3→gL ((w.setS i (bL (w.s i) keep).1).s j) (upd g i ⟨(g i).D.take k,k,(g i).E⟩ j) j:=fun j hj=>by
  rw [ez (by omega)]
  by_cases e:j=i
  ·subst e;rw [if_pos rfl,cV];exact k3
  ·rw [if_neg e,bJ _ _ e];exact h.sv j hj
 have hsmall:∀ j,j<3→(upd g i ⟨(g i).D.take k,k,(g i).E⟩ j).D.length≤n:=fun j hj=>by
  by_cases e:j=i
  ·subst e;rw [cV];simp only;rw [List.length_take];have:=hsm j hj;omega
  ·rw [bJ _ _ e];exact hsm j hj
 refine ⟨upd g i ⟨(g i).D.take k,k,(g i).E⟩,?_⟩
 by_cases hl:w.leader=i
 ·rw [if_pos hl]
  refine ⟨by simp only [AWorld.resign,AWorld.setF,AWorld.setS,List.length_set];exact hsl,rfl,h.cl,h.pr.resign.cut hi (fun h0=>absurd h0 (by decide)) k1 k2,hsv,hsmall,fun h0=>absurd h0 (show ¬ (0:Int)≤-1 by decide),fun h0=>absurd h0 (show ¬ (0:Int)≤-1 by decide),h.ack,fun m hm=>⟨(h.cli m hm).1,(h.cli m hm).2.gone _⟩⟩
 ·rw [if_neg hl]
  have hne:0≤w.leader→w.leader.toNat≠i:=fun h0 e=>hl (by omega)
  have hf:∀ j,((w.setS i (bL (w.s i) keep).1).setF i false).f j=if j=i then false else w.f j:=fun j=>nK (w:=w.setS i (bL (w.s i) keep).1) (by show i<w.fl.length;omega) false j
  have hs:∀ j,((w.setS i (bL (w.s i) keep).1).setF i false).s j=if j=i then (bL (w.s i) keep).1 else w.s j:=fun j=>ez (by omega) _ j
  refine ⟨by simp only [AWorld.setF,AWorld.setS,List.length_set];exact hsl,by simp only [AWorld.setF,AWorld.setS,List.length_set];exact hfl,h.cl,h.pr.cut hi hne k1 k2,hsv,hsmall,fun h0=>?_,fun h0 j hj hfj=>?_,h.ack,fun m hm=>⟨(h.cli m hm).1,?_⟩⟩
  ·change 0≤w.leader at h0
   show ((w.setS i (bL (w.s i) keep).1).setF i false).f w.leader.toNat=true∧(((w.setS i (bL (w.s i) keep).1).setF i false).s w.leader.toNat).peer.done=_
   rw [hf,hs,if_neg (hne h0),if_neg (hne h0)]
   show _∧_=(((upd g i ⟨(g i).D.take k,k,(g i).E⟩ w.leader.toNat).D.length:Nat):Int)
   rw [bJ _ _ (hne h0)];exact h.lead h0
  ·rw [hf] at hfj
   by_cases e:j=i
   ·rw [if_pos e] at hfj;cases hfj
   rw [if_neg e] at hfj
   change 0≤w.leader at h0
   have:=h.fol h0 j hj hfj
   show (((w.setS i (bL (w.s i) keep).1).setF i false).s j).up=true∧_=(upd g i ⟨(g i).D.take k,k,(g i).E⟩ w.leader.toNat).D
   rw [hs,if_neg e,bJ _ _ e,bJ _ _ (hne h0)]
   exact this
  ·show Old w.leader es (upd g i ⟨(g i).D.take k,k,(g i).E⟩ w.leader.toNat).D n (w.c m).seen
   have ho:=(h.cli m hm).2
   by_cases h0:0≤w.leader
   ·rw [bJ _ _ (hne h0)];exact ho
   ·exact ⟨ho.1,ho.2.1,ho.2.2.1,fun h=>absurd h h0⟩
theorem WInv.up {w:AWorld} {g:Nat→Gh} {es:Int} {K:List ATxn} {n:Nat} (h:WInv w g es K n) {i:Nat} (hi:i<3):WInv (upW w i).1 g es K n:=by
 unfold upW
 by_cases hu:(w.s i).up=true
 ·rw [if_pos hu];exact h
 rw [if_neg hu]
 have hu':(w.s i).up=false:=by simpa using hu
 obtain ⟨b1,b2,b3,b4,b5⟩:=HY (h.sv i hi) hu' hi
 rw [if_neg (fun h=>h b1)]
 have hsl:=h.sl
 have hs:∀ j,(w.setS i (cK i (w.s i).disk.files).1).s j=if j=i then (cK i (w.s i).disk.files).1 else w.s j:=fun j=>ez (by omega) _ j
 refine ⟨by simp only [AWorld.setS,List.length_set];exact hsl,h.fl,h.cl,h.pr,fun j hj=>?_,h.small,fun h0=>?_,fun h0 j hj hf=>?_,h.ack,h.cli⟩
 ·rw [hs]
  by_cases e:j=i
  ·subst e;rw [if_pos rfl];exact b2
  ·rw [if_neg e];exact h.sv j hj
 ·change 0≤w.leader at h0
  have hl:=h.lead h0
  have hl2:=h.fol h0 w.leader.toNat (by have:=(h.pr.ld0 h0).1;omega) hl.1
  have hne:w.leader.toNat≠i:=fun e=>by rw [e,hu'] at hl2;cases hl2.1
  show w.f w.leader.toNat=true∧((w.setS i (cK i (w.s i).disk.files).1).s w.leader.toNat).peer.done=_
  rw [hs,if_neg hne];exact hl
 ·change 0≤w.leader at h0
  have hj2:=h.fol h0 j hj hf
  have hne:j≠i:=fun e=>by rw [e,hu'] at hj2;cases hj2.1
  show ((w.setS i (cK i (w.s i).disk.files).1).s j).up=true∧_
  rw [hs,if_neg hne];exact hj2
theorem gL.watch {s:AServer} {g:Gh} {j:Nat} (h:gL s g j) (hu:s.up=true) (l:List AWatch):gL { s with watches:=l } g j:=by
 obtain ⟨hid,h1,_⟩:=h
 obtain ⟨e,he,hk,hlg,hep⟩:=h1 hu
 refine ⟨hid,fun _=>⟨e,he,⟨hk.up,hk.disk,hk.le,hk.log,hk.small,hk.elen,hk.d0,hk.dl,hk.tree,hk.play⟩,hlg,hep⟩,fun hf=>?_⟩
 change s.up=false at hf;rw [hu] at hf;cases hf
theorem Pr.zero {g:Nat→Gh} {ld es:Int} {K:List ATxn} {n:Nat} (h:Pr g ld es K n):Old ld es (g ld.toNat).D n 0:=
 ⟨Int.le_refl _,h.es0,Int.natCast_nonneg _,fun h0=>.inr (d9 (h.pos ld.toNat (by have:=h.ld0 h0;omega)))⟩
theorem WInv.treeOld {w:AWorld} {g:Nat→Gh} {es:Int} {K:List ATxn} {n:Nat} (h:WInv w g es K n) {i:Nat} (hi:i<3) (hu:(w.s i).up=true):Old w.leader es (g w.leader.toNat).D n (w.s i).tree.zxid:=by
 obtain ⟨e,he,hk,hlg,hep⟩:=(h.sv i hi).2.1 hu
 rcases hk.posZ.2.2 with h0|⟨x,hx,hz⟩
 ·rw [h0];exact h.pr.zero
 ·rw [←hz];exact h.pr.old i hi x (by rw [←hlg];exact hx)
theorem WInv.setC {w:AWorld} {g:Nat→Gh} {es:Int} {K:List ATxn} {n:Nat} (h:WInv w g es K n) {k:Nat} (hk:k<16) {c:AClient} (hs:c.session=(k:Int)+1) (ho:Old w.leader es (g w.leader.toNat).D n c.seen):WInv (w.setC k c) g es K n:=by
 have hcl:=h.cl
 refine ⟨h.sl,h.fl,by simp only [AWorld.setC,List.length_set];exact hcl,h.pr,h.sv,h.small,h.lead,h.fol,h.ack,fun i hi=>?_⟩
 rw [E9 (by omega)]
 by_cases e:i=k
 ·subst e;rw [if_pos rfl];exact ⟨hs,ho⟩
 ·rw [if_neg e];exact h.cli i hi
theorem WInv.setS {w:AWorld} {g:Nat→Gh} {es:Int} {K:List ATxn} {n:Nat} (h:WInv w g es K n) {i:Nat} (hi:i<3) {s:AServer} (hs:gL s (g i) i) (hu:s.up=(w.s i).up) (hd:s.peer.done=(w.s i).peer.done):WInv (w.setS i s) g es K n:=by
 have hsl:=h.sl
 refine ⟨by simp only [AWorld.setS,List.length_set];exact hsl,h.fl,h.cl,h.pr,fun j hj=>?_,h.small,fun h0=>?_,fun h0 j hj hf=>?_,h.ack,h.cli⟩
 ·rw [ez (by omega)]
  by_cases e:j=i
  ·subst e;rw [if_pos rfl];exact hs
  ·rw [if_neg e];exact h.sv j hj
 ·show w.f w.leader.toNat=true∧((w.setS i s).s w.leader.toNat).peer.done=_
  rw [ez (by omega)]
  by_cases e:w.leader.toNat=i
  ·rw [if_pos e,hd,←e];exact h.lead h0
  ·rw [if_neg e];exact h.lead h0
 ·show ((w.setS i s).s j).up=true∧_
  rw [ez (by omega)]
  by_cases e:j=i
  ·rw [if_pos e,hu,←e];exact h.fol h0 j hj hf
  ·rw [if_neg e];exact h.fol h0 j hj hf
theorem WInv.read {w:AWorld} {g:Nat→Gh} {es:Int} {K:List ATxn} {n:Nat} (h:WInv w g es K n) (d:ADeed):WInv (iO w d).1 g es K n:=by
 unfold iO
 split
 ·exact h
 rename_i hd
 have hi:d.server.toNat<3:=by omega
 have hk:d.client.toNat<16:=by omega
 simp only
 split
 ·exact h
 rename_i hu
 have hu:(w.s d.server.toNat).up=true:=by simpa using hu
 have ho:=h.treeOld hi hu
 have hc:=h.cli _ hk
 split
 ·exact h
 rename_i hs
 have hse:gI (w.c d.client.toNat) (w.s d.server.toNat).tree.zxid=({ w.c d.client.toNat with seen:=(w.s d.server.toNat).tree.zxid },0):=by
  unfold gI at hs ⊢
  split
  ·rename_i hh;rw [if_pos hh] at hs;exact absurd (show (15:Int)≠0 by decide) hs
  ·rfl
 rw [hse]
 split
 ·split
  ·exact h
  ·refine WInv.setC ?_ hk ?_ ?_
   ·exact WInv.setS h hi (gL.watch (h.sv _ hi) hu (jj (w.s d.server.toNat).watches ⟨(w.c d.client.toNat).session,1,d.request.path⟩).1) rfl rfl
   ·exact hc.1
   ·exact ho
 ·exact h.setC hk hc.1 ho
theorem As {w:AWorld} (h:w.sv.length=3):w.sv=[w.s 0,w.s 1,w.s 2]:=by
 unfold AWorld.s
 rcases e:w.sv with _|⟨a,_|⟨b,_|⟨c,_|⟨d,r⟩⟩⟩⟩
 all_goals rw [e] at h
 all_goals first|(simp at h;done)|rfl
theorem gl {w:AWorld} (h:w.sv.length=3) {p:APeer}:p∈bt w↔∃ j,j<3∧(w.s j).up=true∧p=(w.s j).peer:=by
 unfold bt
 rw [As h,List.mem_map]
 constructor
 ·rintro ⟨s,hs,rfl⟩
  obtain ⟨h1,h2⟩:=List.mem_filter.1 hs
  simp only [List.mem_cons,List.not_mem_nil,or_false] at h1
  rcases h1 with rfl|rfl|rfl
  ·exact ⟨0,by decide,h2,rfl⟩
  ·exact ⟨1,by decide,h2,rfl⟩
  ·exact ⟨2,by decide,h2,rfl⟩
 ·rintro ⟨j,hj,hu,rfl⟩
  refine ⟨w.s j,List.mem_filter.2 ⟨?_,hu⟩,rfl⟩
  have:j=0∨j=1∨j=2:=by omega
  rcases this with rfl|rfl|rfl<;>simp
theorem w8 {w:AWorld} (h:w.sv.length=3) (hid:∀ j,j<3→(w.s j).peer.id=j):List.Pairwise (fun a b:APeer=>a.id<b.id) (bt w):=by
 unfold bt
 rw [As h,List.pairwise_map]
 refine List.Pairwise.filter _ ?_
 have h0:=hid 0 (by decide)
 have h1:=hid 1 (by decide)
 have h2:=hid 2 (by decide)
 refine List.pairwise_cons.2 ⟨fun b hb=>?_,List.pairwise_cons.2 ⟨fun b hb=>?_,List.pairwise_singleton _ _⟩⟩
 ·rcases List.mem_cons.1 hb with rfl|hb
  ·omega
  ·rw [List.mem_singleton.1 hb];omega
 ·rw [List.mem_singleton.1 hb];omega
theorem CL {w:AWorld} (h:w.sv.length=3) (hid:∀ j,j<3→(w.s j).peer.id=j) (hl:2≤(bt w).length):Two fun j=>(w.s j).up=true:=by
 have hp:=w8 h hid
 have h0:=List.getElem_mem (l:=bt w) (n:=0) (by omega)
 have h1:=List.getElem_mem (l:=bt w) (n:=1) (by omega)
 have hlt:=List.pairwise_iff_getElem.1 hp 0 1 (by omega) (by omega) (by omega)
 obtain ⟨i,a1,a2,a3⟩:=(gl h).1 h0
 obtain ⟨j,b1,b2,b3⟩:=(gl h).1 h1
 refine ⟨i,j,a1,b1,fun e=>?_,a2,b2⟩
 subst e
 rw [a3,b3] at hlt
 omega
def Flw (w:AWorld) (g:Nat→Gh) (l:List ATxn) (ep:Int):Prop:=∀ j,j<3→w.f j=true→(w.s j).up=true∧g j=⟨l,l.length,ep⟩∧(w.s j).peer.done=l.length
theorem oN {l:List ATxn} {ep es:Int} {n b:Nat} {K:List ATxn} (ho:logOk l) (hl:(encs l).length≤1048576) (hp:∃ v,bO t00 l=some v) (h0:0≤ep) (h1:ep≤2147483647) (he:es<ep) (hn:ep≤n) (hll:l.length≤n) (hb:b<3) (hK:K <+: l) :
  ∀ (r:List Nat) (w:AWorld) (ns:List ANote) (g:Nat→Gh),r.Nodup→(∀ i,i∈r→i<3)→WInv w g es K n→w.leader=-1→(g b).D=l→Flw w g l ep→
    ∃ g',WInv (bo l ep r w ns).1 g' es K n∧(bo l ep r w ns).1.leader=-1∧(g' b).D=l∧Flw (bo l ep r w ns).1 g' l ep∧(∀ j,((bo l ep r w ns).1.s j).up=(w.s j).up)∧
      ((bo l ep r w ns).2.2=0→∀ j,j∈r→(w.s j).up=true→(bo l ep r w ns).1.f j=true)∧(∀ j,w.f j=true→(bo l ep r w ns).1.f j=true)∧
      ((∀ j,j∈r→(w.s j).peer.done=0)→(bo l ep r w ns).2.2=0)∧(bo l ep r w ns).1.done=w.done∧(bo l ep r w ns).1.deeds=w.deeds
 |[],w,ns,g,_,_,hw,hld,hbl,hf=>⟨g,hw,hld,hbl,hf,fun _=>rfl,fun _ j hj=>(by cases hj),fun _ h=>h,fun _=>rfl,rfl,rfl⟩
 | i :: r,w,ns,g,hnd,hr,hw,hld,hbl,hf=>by
   have hi:i<3:=hr i (List.mem_cons_self ..)
   have hr2:∀ j,j∈r→j<3:=fun j hj=>hr j (List.mem_cons_of_mem _ hj)
   obtain ⟨hnd1,hnd2⟩:=List.nodup_cons.1 hnd
   rw [bo]
   by_cases hu:(w.s i).up=false
   ·rw [if_pos hu]
    obtain ⟨g',q1,q2,q3,q4,q5,q6,q7,q8,q9⟩:=oN ho hl hp h0 h1 he hn hll hb hK r w ns g hnd2 hr2 hw hld hbl hf
    refine ⟨g',q1,q2,q3,q4,q5,fun hz j hj hj2=>?_,q7,fun hd=>q8 fun j hj=>hd j (List.mem_cons_of_mem _ hj),q9⟩
    rcases List.mem_cons.1 hj with e|e
    ·subst e;rw [hu] at hj2;cases hj2
    ·exact q6 hz j e hj2
   rw [if_neg hu]
   have hu:(w.s i).up=true:=by simpa using hu
   have hone:∀ x y,x∈l→y∈(g i).D→x.zxid=y.zxid→x=y:=fun x y hx hy=>hw.pr.one b i hb hi x y (by rw [hbl];exact hx) hy
   obtain ⟨s1,s2⟩:=By (hw.sv i hi) hu ho hl hp hone h0 h1
   by_cases hfz:(aF (w.s i) l ep).2=0
   case neg=>
    rw [if_pos hfz]
    exact ⟨g,hw,hld,hbl,hf,fun _=>rfl,fun hz=>absurd hz hfz,fun _ h=>h,fun hd=>absurd (s2 (hd i (List.mem_cons_self ..))) hfz,rfl,rfl⟩
   rw [if_neg (fun h=>h hfz)]
   obtain ⟨t1,t2,t3,t4,_⟩:=s1 hfz
   generalize (aF (w.s i) l ep).1=F at t1 t2 t3 ⊢
   obtain ⟨c1,c2,c3,c4⟩:=ul t1 t2 (n:=(l.length:Int)) (by rw [t3];exact t4) (Int.le_refl _)
   rw [if_neg (fun h=>h c1)]
   generalize (ax F l.length).2.1=ms
   generalize (ax F l.length).1=s at c2 c3 c4 ⊢
   have hsl:=hw.sl
   have hfl:=hw.fl
   have hs:∀ j,((w.setS i s).setF i true).s j=if j=i then s else w.s j:=fun j=>ez (by omega) _ j
   have hff:∀ j,((w.setS i s).setF i true).f j=if j=i then true else w.f j:=fun j=>nK (w:=w.setS i s) (by show i<w.fl.length;omega) true j
   have hgb:(upd g i ⟨l,l.length,ep⟩ b).D=l:=by
    by_cases e:b=i
    ·subst e;rw [cV]
    ·rw [bJ _ _ e];exact hbl
   have hld2:((w.setS i s).setF i true).leader=-1:=hld
   have hwi:WInv ((w.setS i s).setF i true) (upd g i ⟨l,l.length,ep⟩) es K n:=by
    have hpr:=hw.pr
    rw [hld] at hpr
    have hpf:=hpr.follow hi hb (by rw [hbl];exact hK) he hn
    rw [hbl] at hpf
    refine ⟨by simp only [AWorld.setF,AWorld.setS,List.length_set];exact hsl,by simp only [AWorld.setF,AWorld.setS,List.length_set];exact hfl,hw.cl,by rw [hld2];exact hpf,fun j hj=>?_,fun j hj=>?_,fun h=>?_,fun h=>?_,hw.ack,fun m hm=>⟨(hw.cli m hm).1,?_⟩⟩
    ·rw [hs]
     by_cases e:j=i
     ·subst e;rw [if_pos rfl,cV];exact c2
     ·rw [if_neg e,bJ _ _ e];exact hw.sv j hj
    ·by_cases e:j=i
     ·subst e;rw [cV];exact hll
     ·rw [bJ _ _ e];exact hw.small j hj
    ·rw [hld2] at h;exact absurd h (by decide)
    ·rw [hld2] at h;exact absurd h (by decide)
    ·rw [hld2];exact (hw.cli m hm).2.gone _
   have hfw:Flw ((w.setS i s).setF i true) (upd g i ⟨l,l.length,ep⟩) l ep:=fun j hj hj2=>by
    rw [hs]
    by_cases e:j=i
    ·subst e;rw [if_pos rfl,cV];exact ⟨c3,rfl,c4⟩
    ·rw [hff,if_neg e] at hj2
     rw [if_neg e,bJ _ _ e];exact hf j hj hj2
   obtain ⟨g',q1,q2,q3,q4,q5,q6,q7,q8,q9⟩:=oN ho hl hp h0 h1 he hn hll hb hK r ((w.setS i s).setF i true) (ns++ms) _ hnd2 hr2 hwi hld2 hgb hfw
   have hup:∀ j,(((w.setS i s).setF i true).s j).up=(w.s j).up:=fun j=>by
    rw [hs]
    by_cases e:j=i
    ·subst e;rw [if_pos rfl,c3,hu]
    ·rw [if_neg e]
   refine ⟨g',q1,q2,q3,q4,fun j=>(q5 j).trans (hup j),fun hz j hj hj2=>?_,fun j hj=>q7 j ?_,fun hd=>q8 fun j hj=>?_,q9⟩
   ·rcases List.mem_cons.1 hj with e|e
    ·exact q7 j (by rw [hff,if_pos e])
    ·exact q6 hz j e (by rw [hup];exact hj2)
   ·rw [hff];split
    ·rfl
    ·exact hj
   ·rw [hs,if_neg (fun e=>hnd1 (by rw [←e];exact hj))]
    exact hd j (List.mem_cons_of_mem _ hj)
theorem uV {w:AWorld} {i:Nat} (h:i<w.cl.length) (ns:List ANote):(eF w ns).c i=⟨(w.c i).session,(w.c i).seen,dZ (w.c i).session (w.c i).cache ns⟩:=by
 unfold eF AWorld.c
 simp only
 rw [List.getD_eq_getElem?_getD,List.getElem?_map,List.getElem?_eq_getElem h,List.getD_eq_getElem?_getD,List.getElem?_eq_getElem h];rfl
theorem WInv.tell {w:AWorld} {g:Nat→Gh} {es:Int} {K:List ATxn} {n:Nat} (h:WInv w g es K n) (ns:List ANote):WInv (eF w ns) g es K n:=by
 have hcl:=h.cl
 refine ⟨h.sl,h.fl,by unfold eF;simp only [List.length_map];exact hcl,h.pr,h.sv,h.small,h.lead,h.fol,h.ack,fun i hi=>?_⟩
 rw [uV (by omega)];exact h.cli i hi
theorem WInv.ids {w:AWorld} {g:Nat→Gh} {es:Int} {K:List ATxn} {n:Nat} (h:WInv w g es K n):∀ j,j<3→(w.s j).peer.id=j:=fun j hj=>(h.sv j hj).1
theorem WInv.elect {w:AWorld} {g:Nat→Gh} {es:Int} {K:List ATxn} {n:Nat} (h:WInv w g es K n) (hn:n<1000) :
  ∃ g' es',WInv (dv w).1 g' es' K (n+1)∧(dv w).1.done=w.done∧(dv w).1.deeds=w.deeds∧(∀ j,((dv w).1.s j).up=(w.s j).up)∧
    ((dv w).2.code=0→0≤(dv w).1.leader∧∀ j,j<3→(w.s j).up=true→(dv w).1.f j=true∧((dv w).1.s j).peer.done=(g' j).D.length)∧
    (2≤(bt w).length→(∀ j,j<3→(w.s j).peer.done=0)→(dv w).2.code=0):=by
 have hids:=h.ids
 have hup:∀ j,j<3→(w.s j).up=true→(w.s j).peer.log=(g j).D∧(w.s j).peer.epoch=(g j).E∧(∃ v,bO t00 (g j).D=some v):=fun j hj hu=>by
  obtain ⟨e,he,hk,hlg,hep⟩:=(h.sv j hj).2.1 hu
  exact ⟨hlg,hep,by rw [←hlg];exact hk.play⟩
 have hpe:∀ p,p∈bt w→0≤p.id∧p.id<3∧0≤p.epoch∧p.epoch≤(n:Int)∧epZ (az p.log)≤(n:Int):=fun p hp=>by
  obtain ⟨j,hj,hu,rfl⟩:=(gl h.sl).1 hp
  obtain ⟨u1,u2,_⟩:=hup j hj hu
  have h1:=hids j hj
  have h2:=h.pr.E0 j hj
  refine ⟨by omega,by omega,by omega,by omega,?_⟩
  rw [u1]
  have hes:=h.pr.esn
  by_cases e:(g j).D=[]
  ·rw [e,gu]
   show epZ 0≤_
   have:epZ 0=0:=by decide
   omega
  ·obtain ⟨x,q1,q2⟩:=eU e
   rw [←q2]
   have ho:=h.pr.old j hj x q1
   unfold epZ
   split
   ·have:=ho.2.1;omega
   ·omega
 obtain ⟨e1,e2⟩:=EC (l:=bt w) (B:=(n:Int)) (by omega) (by omega) (w8 h.sl hids) hpe
 unfold dv
 by_cases hlen:(bt w).length<2
 ·rw [e1 hlen,if_pos (show (14:Int)≠0 by decide)]
  exact ⟨g,es,h.mono (by omega),rfl,rfl,fun _=>rfl,fun hc=>absurd (show (14:Int)=0 from hc) (by decide),fun hc=>absurd hc (by omega)⟩
 obtain ⟨b,ep,hel,hb1,hb2,hb3⟩:=e2 (by omega)
 rw [hel,if_neg (fun h=>h rfl)]
 simp only
 rw [show ((b:Nat):Int).toNat=b from rfl]
 have hpm:=bU (bt w) b hb1
 obtain ⟨jb,j1,j2,j3⟩:=(gl h.sl).1 hpm
 rw [j3] at hb2 ⊢
 obtain ⟨u1,u2,u3⟩:=hup jb j1 j2
 have hU:=CL h.sl hids (by omega)
 rw [u1] at hb2 ⊢
 have hK:K <+: (g jb).D:=h.pr.best hU j1 fun j hj hu=>by
  have:=(hb2 _ ((gl h.sl).2 ⟨j,hj,hu,rfl⟩)).1
  rwa [(hup j hj hu).1] at this
 have hes:es<ep:=h.pr.epoch hU fun j hj hu=>by
  have:=(hb2 _ ((gl h.sl).2 ⟨j,hj,hu,rfl⟩)).2
  rwa [(hup j hj hu).2.1] at this
 have hes0:=h.pr.es0
 have hlog:=h.pr.log jb j1
 have hsm:=h.small jb j1
 have henc:=wb hlog.2
 obtain ⟨g',q1,q2,q3,q4,q5,q6,q7,q8,q9,q10⟩:=oN (n:=n+1) (b:=jb) hlog (by omega) u3 (by omega) (by omega) hes (by omega) (by omega) j1 hK [0,1,2] w.resign [] g (by decide) (fun i hi=>by simp at hi;omega) (h.resign.mono (by omega)) rfl rfl (fun j _ hf=>by rw [xA] at hf;cases hf)
 have hin:∀ j,j<3→j∈[0,1,2]:=fun j hj=>by
  have:j=0∨j=1∨j=2:=by omega
  rcases this with rfl|rfl|rfl<;>simp
 by_cases hz:(bo (g jb).D ep [0,1,2] w.resign []).2.2=0
 case neg=>
  rw [if_pos hz]
  exact ⟨g',es,q1,q9,q10,q5,fun hc=>absurd hc hz,fun _ hd=>absurd (q8 fun j hj=>hd j (by simp at hj;omega)) hz⟩
 rw [if_neg (fun h=>h hz)]
 have q6':=q6 hz
 generalize bo (g jb).D ep [0,1,2] w.resign []=R at q1 q2 q3 q4 q5 q6' q7 q9 q10 hz ⊢
 have hfu:∀ j,j<3→(w.s j).up=true→R.1.f j=true:=fun j hj hu=>q6' j (hin j hj) hu
 have hjb:=q4 jb j1 (hfu jb j1 j2)
 have hidb:=hids jb j1
 have hpr:=q1.pr
 rw [q2] at hpr
 have hprl:=hpr.lead hes (by omega) (hU.mono fun j hj hu=>by rw [(q4 j hj (hfu j hj hu)).2.1];exact Int.le_refl _) j1 (by rw [hjb.2.1]) (by rw [q3];exact hK)
 have hwi:WInv { R.1 with leader:=(jb:Int) } g' ep K (n+1):=by
  refine ⟨q1.sl,q1.fl,q1.cl,hprl,q1.sv,q1.small,fun _=>?_,fun _ j hj hf=>?_,q1.ack,fun m hm=>⟨(q1.cli m hm).1,(q1.cli m hm).2.lead hes _⟩⟩
  ·show R.1.f jb=true∧(R.1.s jb).peer.done=((g' jb).D.length:Int)
   exact ⟨hfu jb j1 j2,by rw [hjb.2.2,hjb.2.1]⟩
  ·show (R.1.s j).up=true∧(g' j).D=(g' jb).D
   have:=q4 j hj hf
   exact ⟨this.1,by rw [this.2.1,hjb.2.1]⟩
 rw [hidb]
 refine ⟨g',ep,hwi.tell _,q9,q10,q5,fun _=>⟨Int.natCast_nonneg _,fun j hj hu=>?_⟩,fun _ _=>rfl⟩
 have:=q4 j hj (hfu j hj hu)
 show R.1.f j=true∧(R.1.s j).peer.done=((g' j).D.length:Int)
 exact ⟨hfu j hj hu,by rw [this.2.2,this.2.1]⟩
theorem AY {t:ATree} {z:Int} {r:ARequest} (h:(cr t z r).2=0):(cr t z r).1.zxid=z∧(ar t (cr t z r).1).2.2=0:=by
 unfold cr at h ⊢
 split
 ·rename_i h1
  rw [if_pos h1] at h
  split
  ·rename_i h2
   rw [if_pos h2] at h
   split
   ·rename_i h3
    refine ⟨?_,h3⟩
    simp only
    unfold eB at h2 ⊢
    by_cases o1:r.op=1∨r.op=2
    ·rw [if_pos o1]
    rw [if_neg o1] at h2 ⊢
    by_cases o3:r.op=3
    ·rw [if_pos o3]
    rw [if_neg o3] at h2 ⊢
    by_cases o4:r.op=4
    ·rw [if_pos o4]
    rw [if_neg o4] at h2 ⊢
    by_cases o5:r.op=5
    ·rw [if_pos o5]
    rw [if_neg o5] at h2
    exact absurd (show (4:Int)=0 from h2) (by decide)
   ·rename_i h3
    rw [if_neg h3] at h;exact absurd h h3
  ·rename_i h2
   rw [if_neg h2] at h;exact absurd h h2
 ·rename_i h1
  rw [if_neg h1] at h
  exact absurd (show (3:Int)=0 from h) (by decide)
theorem Bc {t:ATree} {x:ATxn} (h:(ar t x).2.2=0):aN x=0∧t.zxid<x.zxid:=by
 have h0:cS t x=0:=by
  apply Classical.byContradiction;intro hw
  rw [mT hw] at h;exact hw h
 have:=dU h0
 exact ⟨this.2.1,this.2.2.1⟩
theorem mX {x:ATxn} {lead lost slow:Int} {L:List ATxn} (hx:aN x=0) (hz:az L<x.zxid) (hl:(encs L).length+(cH x).1.length≤1048576) (hp:∃ v,bO t00 (L++[x])=some v) :
  ∀ (r:List Nat) (w:AWorld) (g:Nat→Gh) (hv:List Nat),r.Nodup→(∀ i,i∈r→i<3)→w.sv.length=3→w.fl.length=3→(∀ j,j<3→gL (w.s j) (g j) j)→(∀ j,j∈r→w.f j=true→(w.s j).up=true∧(g j).D=L)→
    ∃ (g':Nat→Gh) (hv':List Nat),(bG x lead lost slow r w hv).2=(hv++hv',0)∧hv'.Sublist r∧(bG x lead lost slow r w hv).1.sv.length=3∧(bG x lead lost slow r w hv).1.fl.length=3∧
      (bG x lead lost slow r w hv).1.cl=w.cl∧(bG x lead lost slow r w hv).1.leader=w.leader∧(bG x lead lost slow r w hv).1.done=w.done∧(bG x lead lost slow r w hv).1.deeds=w.deeds∧
      (∀ j,j<3→gL ((bG x lead lost slow r w hv).1.s j) (g' j) j)∧(∀ j,((bG x lead lost slow r w hv).1.s j).up=(w.s j).up∧((bG x lead lost slow r w hv).1.s j).peer.done=(w.s j).peer.done)∧(∀ j,(g' j).E=(g j).E)∧
      (∀ j,¬ j∈r→(bG x lead lost slow r w hv).1.f j=w.f j∧g' j=g j)∧
      (∀ j,j∈r→((bG x lead lost slow r w hv).1.f j=true∧w.f j=true∧(g j).D=L∧(g' j).D=L++[x]∧(g j).a≤(g' j).a∧(g' j).a≤(g' j).D.length)∨((bG x lead lost slow r w hv).1.f j=false∧g' j=g j))∧
      (∀ j,j∈hv'→(bG x lead lost slow r w hv).1.f j=true∧(g' j).D=L++[x]∧(g' j).a=(g' j).D.length)∧
      (∀ j:Nat,lead=j→j∈r→w.f j=true→j∈hv')
 |[],w,g,hv,_,_,h1,h2,h3,_=>⟨g,[],by rw [bG,List.append_nil],List.Sublist.refl _,h1,h2,rfl,rfl,rfl,rfl,h3,fun _=>⟨rfl,rfl⟩,fun _=>rfl,fun _ _=>⟨rfl,rfl⟩,fun _ h=>(by cases h),fun _ h=>(by cases h),fun _ _ h=>(by cases h)⟩
 | i :: r,w,g,hv,hnd,hr,h1,h2,h3,h4=>by
   have hi:i<3:=hr i (List.mem_cons_self ..)
   have hr2:∀ j,j∈r→j<3:=fun j hj=>hr j (List.mem_cons_of_mem _ hj)
   obtain ⟨hnd1,hnd2⟩:=List.nodup_cons.1 hnd
   rw [bG]
   by_cases hf:w.f i=false
   ·rw [if_pos hf]
    obtain ⟨g',hv',q0,q1,q2,q3,q4,q5,q6,q7,q8,q9,q10,q11,q12,q13,q14⟩:=mX hx hz hl hp (lead:=lead) (lost:=lost) (slow:=slow) r w g hv hnd2 hr2 h1 h2 h3 (fun j hj=>h4 j (List.mem_cons_of_mem _ hj))
    refine ⟨g',hv',q0,q1.cons _,q2,q3,q4,q5,q6,q7,q8,q9,q10,fun j hj=>q11 j fun hh=>hj (List.mem_cons_of_mem _ hh),fun j hj=>?_,q13,fun j e hj hfj=>?_⟩
    ·rcases List.mem_cons.1 hj with rfl|hj
     ·have:=q11 j hnd1
      exact .inr ⟨by rw [this.1,hf],this.2⟩
     ·exact q12 j hj
    ·rcases List.mem_cons.1 hj with rfl|hj
     ·rw [hf] at hfj;cases hfj
     ·exact q14 j e hj hfj
   rw [if_neg hf]
   have hf:w.f i=true:=by simpa using hf
   obtain ⟨hu,hD⟩:=h4 i (List.mem_cons_self ..) hf
   by_cases hlost:¬ lead=(i:Int)∧su lost i=true
   ·rw [if_pos hlost]
    have hff:∀ j,(w.setF i false).f j=if j=i then false else w.f j:=fun j=>nK (by omega) false j
    have hne:∀ j,j∈r→j≠i:=fun j hj e=>hnd1 (by rw [←e];exact hj)
    obtain ⟨g',hv',q0,q1,q2,q3,q4,q5,q6,q7,q8,q9,q10,q11,q12,q13,q14⟩:=mX hx hz hl hp (lead:=lead) (lost:=lost) (slow:=slow) r (w.setF i false) g hv hnd2 hr2 h1 (by simp only [AWorld.setF,List.length_set];exact h2) h3 (fun j hj hfj=>h4 j (List.mem_cons_of_mem _ hj) (by rw [hff,if_neg (hne j hj)] at hfj;exact hfj))
    refine ⟨g',hv',q0,q1.cons _,q2,q3,q4,q5,q6,q7,q8,q9,q10,fun j hj=>?_,fun j hj=>?_,q13,fun j e hj hfj=>?_⟩
    ·have:=q11 j fun hh=>hj (List.mem_cons_of_mem _ hh)
     rw [hff,if_neg (fun e=>hj (by rw [e];exact List.mem_cons_self ..))] at this
     exact this
    ·rcases List.mem_cons.1 hj with rfl|hj
     ·have:=q11 j hnd1
      exact .inr ⟨by rw [this.1,hff,if_pos rfl],this.2⟩
     ·have:=q12 j hj
      rw [hff,if_neg (hne j hj)] at this
      exact this
    ·rcases List.mem_cons.1 hj with rfl|hj
     ·exact absurd e hlost.1
     ·exact q14 j e hj (by rw [hff,if_neg (hne j hj)];exact hfj)
   rw [if_neg hlost]
   obtain ⟨e1,e2,e3,e4,_⟩:=HM (h3 i hi) hu hx (by rw [hD];exact hz) (by rw [hD];exact hl) (by rw [hD];exact hp) (decide (lead=(i:Int))||!su slow i)
   rw [if_neg (fun h=>h e1)]
   generalize hsafe:(decide (lead=(i:Int))||!su slow i)=safe at e1 e2 e3 e4 ⊢
   generalize (bh (w.s i) x safe).1=s at e2 e3 e4 ⊢
   have hs:∀ j,(w.setS i s).s j=if j=i then s else w.s j:=fun j=>ez (by omega) _ j
   have hne:∀ j,j∈r→j≠i:=fun j hj e=>hnd1 (by rw [←e];exact hj)
   have hal:(g i).a≤(g i).D.length:=by
    obtain ⟨e,_,hk,hlg,_⟩:=(h3 i hi).2.1 hu
    have:=hk.le;rwa [hlg] at this
   obtain ⟨g',hv',q0,q1,q2,q3,q4,q5,q6,q7,q8,q9,q10,q11,q12,q13,q14⟩:=mX hx hz hl hp (lead:=lead) (lost:=lost) (slow:=slow) r (w.setS i s) (upd g i ⟨(g i).D++[x],if safe=true then (g i).D.length+1 else (g i).a,(g i).E⟩) (if safe=true then hv++[i] else hv) hnd2 hr2 (by simp only [AWorld.setS,List.length_set];exact h1) h2 (fun j hj=>by
     rw [hs]
     by_cases e:j=i
     ·subst e;rw [if_pos rfl,cV];exact e2
     ·rw [if_neg e,bJ _ _ e];exact h3 j hj) (fun j hj hfj=>by
     rw [hs,if_neg (hne j hj),bJ _ _ (hne j hj)]
     exact h4 j (List.mem_cons_of_mem _ hj) hfj)
   have hgi:g' i=⟨(g i).D++[x],if safe=true then (g i).D.length+1 else (g i).a,(g i).E⟩:=by
    have:=(q11 i hnd1).2;rwa [cV] at this
   have hfi:(bG x lead lost slow r (w.setS i s) (if safe=true then hv++[i] else hv)).1.f i=true:=by
    rw [(q11 i hnd1).1];exact hf
   have hgE:∀ j,(upd g i ⟨(g i).D++[x],if safe=true then (g i).D.length+1 else (g i).a,(g i).E⟩ j).E=(g j).E:=fun j=>by
    by_cases e:j=i
    ·subst e;rw [cV]
    ·rw [bJ _ _ e]
   have hso:∀ j,((w.setS i s).s j).up=(w.s j).up∧((w.setS i s).s j).peer.done=(w.s j).peer.done:=fun j=>by
    rw [hs]
    by_cases e:j=i
    ·subst e;rw [if_pos rfl];exact ⟨by rw [e3,hu],e4⟩
    ·rw [if_neg e];exact ⟨rfl,rfl⟩
   refine ⟨g',(if safe=true then [i] else [])++hv',?_,?_,q2,q3,q4,q5,q6,q7,q8,fun j=>⟨(q9 j).1.trans (hso j).1,(q9 j).2.trans (hso j).2⟩,fun j=>(q10 j).trans (hgE j),fun j hj=>?_,fun j hj=>?_,fun j hj=>?_,fun j e hj hfj=>?_⟩
   ·rw [q0]
    cases safe
    ·simp
    ·simp
   ·cases safe
    ·exact q1.cons _
    ·exact q1.cons_cons _
   ·have:=q11 j fun hh=>hj (List.mem_cons_of_mem _ hh)
    rw [bJ _ _ (fun e=>hj (by rw [e];exact List.mem_cons_self ..))] at this
    exact this
   ·rcases List.mem_cons.1 hj with rfl|hj
    ·refine .inl ⟨hfi,hf,hD,by rw [hgi,hD],?_,?_⟩
     ·rw [hgi];simp only;split<;>omega
     ·rw [hgi];simp only [List.length_append,List.length_singleton];split<;>omega
    ·have:=q12 j hj
     rw [bJ _ _ (hne j hj)] at this
     exact this
   ·rcases List.mem_append.1 hj with hj|hj
    ·cases safe
     ·simp at hj
     ·simp at hj
      subst hj
      refine ⟨hfi,by rw [hgi,hD],?_⟩
      rw [hgi];simp
    ·exact q13 j hj
   ·rcases List.mem_cons.1 hj with rfl|hj
    ·rw [decide_eq_true e,Bool.true_or] at hsafe
     subst hsafe;simp
    ·exact List.mem_append.2 (.inr (q14 j e hj hfj))
theorem qa {g:Nat→Gh}:∀ (r:List Nat) (w:AWorld) (ns:List ANote),(∀ i,i∈r→i<3∧(w.s i).up=true)→w.sv.length=3→(∀ j,j<3→gL (w.s j) (g j) j)→
   (ba r w ns).2.2=0∧(ba r w ns).1.sv.length=3∧(ba r w ns).1.fl=w.fl∧(ba r w ns).1.cl=w.cl∧(ba r w ns).1.leader=w.leader∧(ba r w ns).1.done=w.done∧(ba r w ns).1.deeds=w.deeds∧
    (∀ j,j<3→gL ((ba r w ns).1.s j) (g j) j)∧(∀ j,((ba r w ns).1.s j).up=(w.s j).up)∧(∀ j,j∈r∨(w.s j).peer.done=(g j).D.length→((ba r w ns).1.s j).peer.done=(g j).D.length)
 |[],w,ns,_,h1,h2=>⟨rfl,h1,rfl,rfl,rfl,rfl,rfl,h2,fun _=>rfl,fun j hj=>hj.elim (fun h=>by cases h) id⟩
 | i :: r,w,ns,hr,h1,h2=>by
   obtain ⟨hi,hu⟩:=hr i (List.mem_cons_self ..)
   obtain ⟨e,_,hk,hlg,_⟩:=(h2 i hi).2.1 hu
   have hdl:=hk.dl
   obtain ⟨c1,c2,c3,c4⟩:=ul (h2 i hi) hu (n:=((w.s i).peer.log.length:Int)) hdl (by rw [hlg];exact Int.le_refl _)
   rw [ba,if_neg (fun h=>h c1)]
   generalize (ax (w.s i) (w.s i).peer.log.length).2.1=ms
   generalize (ax (w.s i) (w.s i).peer.log.length).1=s at c2 c3 c4 ⊢
   have hs:∀ j,(w.setS i s).s j=if j=i then s else w.s j:=fun j=>ez (by omega) _ j
   have hup:∀ j,((w.setS i s).s j).up=(w.s j).up:=fun j=>by
    rw [hs]
    by_cases e:j=i
    ·subst e;rw [if_pos rfl,c3,hu]
    ·rw [if_neg e]
   obtain ⟨q1,q2,q3,q4,q5,q6,q7,q8,q9,q10⟩:=qa (g:=g) r (w.setS i s) (ns++ms) (fun j hj=>⟨(hr j (List.mem_cons_of_mem _ hj)).1,by rw [hup];exact (hr j (List.mem_cons_of_mem _ hj)).2⟩) (by simp only [AWorld.setS,List.length_set];exact h1) (fun j hj=>by
    rw [hs]
    by_cases e:j=i
    ·subst e;rw [if_pos rfl];exact c2
    ·rw [if_neg e];exact h2 j hj)
   refine ⟨q1,q2,q3,q4,q5,q6,q7,q8,fun j=>(q9 j).trans (hup j),fun j hj=>q10 j ?_⟩
   by_cases e:j=i
   ·subst e;right;rw [hs,if_pos rfl,c4,hlg]
   ·rcases hj with hj|hj
    ·exact .inl ((List.mem_cons.1 hj).resolve_left e)
    ·right;rw [hs,if_neg e];exact hj
theorem KF {l:List Nat} (h:l.Sublist [0,1,2]) (h2:2≤l.length):Two fun j=>j∈l:=by
 have hn:l.Nodup:=h.nodup (by decide)
 have hm:∀ j,j∈l→j<3:=fun j hj=>by
  have:=h.subset hj
  simp at this;omega
 refine ⟨l[0],l[1],hm _ (List.getElem_mem _),hm _ (List.getElem_mem _),fun e=>?_,List.getElem_mem _,List.getElem_mem _⟩
 have:=(List.pairwise_iff_getElem.1 hn) 0 1 (by omega) (by omega) (by omega)
 exact this e
theorem WInv.lastOk {w:AWorld} {g:Nat→Gh} {es:Int} {K:List ATxn} {n:Nat} (h:WInv w g es K n) {j:Nat} (hj:j<3):0≤az (g j).D∧az (g j).D/2147483648≤es∧az (g j).D%2147483648≤n:=by
 have hes:=h.pr.es0
 by_cases e:(g j).D=[]
 ·rw [e,gu];omega
 ·obtain ⟨x,q1,q2⟩:=eU e
  have ho:=h.pr.old j hj x q1
  rw [q2] at ho
  exact ⟨ho.1,ho.2.1,ho.2.2.1⟩
theorem WInv.write {w:AWorld} {g:Nat→Gh} {es:Int} {K:List ATxn} {n:Nat} (h:WInv w g es K n) (hn:n<1000) (d:ADeed) :
  ∃ g' K',WInv (d6 w d).1 g' es K' (n+1)∧(d6 w d).1.deeds=w.deeds∧((d6 w d).2.code=0→∃ x,(d6 w d).1.done=w.done++[x]∧(d6 w d).2.zxid=x.zxid)∧((d6 w d).2.code≠0→(d6 w d).1.done=w.done):=by
 have h0:∀ e:Int,e≠0→∃ g' K',WInv (w,noR e).1 g' es K' (n+1)∧(w,noR e).1.deeds=w.deeds∧((w,noR e).2.code=0→∃ x,(w,noR e).1.done=w.done++[x]∧(w,noR e).2.zxid=x.zxid)∧((w,noR e).2.code≠0→(w,noR e).1.done=w.done):=
  fun e he=>⟨g,K,h.mono (by omega),rfl,fun hc=>absurd hc he,fun _=>rfl⟩
 unfold d6
 by_cases hcl:d.client<0∨16≤d.client
 ·rw [if_pos hcl];exact h0 3 (by decide)
 rw [if_neg hcl]
 by_cases hld:w.leader<0
 ·rw [if_pos hld];exact h0 14 (by decide)
 rw [if_neg hld]
 have hl0:0≤w.leader:=by omega
 obtain ⟨hl3,hlE⟩:=h.pr.ld0 hl0
 have hli:w.leader.toNat<3:=by omega
 obtain ⟨hlf,hldone⟩:=h.lead hl0
 obtain ⟨hlu,_⟩:=h.fol hl0 _ hli hlf
 obtain ⟨ee,he,hk,hlg,hep⟩:=(h.sv _ hli).2.1 hlu
 obtain ⟨z0,z1,z2⟩:=h.lastOk hli
 obtain ⟨n1,n2,n3,n4⟩:=AL (p:=(w.s w.leader.toNat).peer) (n:=n) (by omega) h.pr.es0 h.pr.esn (by rw [hep,hlE]) (by rw [hlg];exact z0) (by rw [hlg];exact z1) (by rw [hlg];exact z2)
 rw [if_neg (fun h=>h n1)]
 simp only
 by_cases hpz:(cr (w.s w.leader.toNat).tree (dC (w.s w.leader.toNat).peer).1 (kE w d)).2=0
 case neg=>rw [if_pos hpz];exact h0 _ hpz
 rw [if_neg (fun h=>h hpz)]
 obtain ⟨p1,p2⟩:=AY hpz
 generalize (cr (w.s w.leader.toNat).tree (dC (w.s w.leader.toNat).peer).1 (kE w d)).1=x at p1 p2 ⊢
 obtain ⟨x1,_⟩:=Bc p2
 rw [←p1] at n2 n3 n4
 rw [hlg] at n4
 have hlogl:=h.pr.log _ hli
 have henc:=wb hlogl.2
 have hsm:=h.small _ hli
 have hxl:=lk x1
 have hxs:=eX x1
 have hplay:∃ v,bO t00 ((g w.leader.toNat).D++[x])=some v:=by
  refine ⟨(ar (w.s w.leader.toNat).tree x).1,?_⟩
  have ht:=hk.tree
  rw [hldone,hlg,List.take_of_length_le (by omega)] at ht
  rw [og,ht]
  show bO (w.s w.leader.toNat).tree [x]=_
  rw [bO,if_pos p2];rfl
 obtain ⟨g',hv,q0,q1,q2,q3,q4,q5,q6,q7,q8,q9,q10,q11,q12,q13,q14⟩:=mX (lead:=w.leader) (lost:=d.lost) (slow:=d.slow) x1 n4 (by omega) hplay [0,1,2] w g [] (by decide) (fun i hi=>by simp at hi;omega) h.sl h.fl h.sv (fun j hj hfj=>by
  have:=h.fol hl0 j (by simp at hj;omega) hfj
  exact this)
 have hin:∀ j,j<3→j∈[0,1,2]:=fun j hj=>by
  have:j=0∨j=1∨j=2:=by omega
  rcases this with rfl|rfl|rfl<;>simp
 rw [q0]
 rw [List.nil_append] at q0 ⊢
 generalize (bG x w.leader d.lost d.slow [0,1,2] w []).1=W at q2 q3 q4 q5 q6 q7 q8 q9 q11 q12 q13 ⊢
 rw [if_neg (fun h=>h rfl)]
 simp only
 have hT:∀ j,j<3→((g j).D=(g w.leader.toNat).D∧(g' j).D=(g w.leader.toNat).D++[x]∧(g j).a≤(g' j).a∧(g' j).a≤(g' j).D.length)∨((g' j).D=(g j).D∧(g' j).a=(g j).a):=fun j hj=>
  (q12 j (hin j hj)).imp (fun a=>⟨a.2.2.1,a.2.2.2.1,a.2.2.2.2.1,a.2.2.2.2.2⟩) (fun a=>⟨by rw [a.2],by rw [a.2]⟩)
 have hsmall:∀ j,j<3→(g' j).D.length≤n+1:=fun j hj=>by
  rcases hT j hj with a|a
  ·rw [a.2.1,List.length_append,List.length_singleton];omega
  ·rw [a.1];have:=h.small j hj;omega
 have hprm:=h.pr.mono (show n≤n+1 by omega)
 by_cases hlen:hv.length<2
 ·rw [if_pos hlen]
  refine ⟨g',K,⟨q2,rfl,by show W.cl.length=16;rw [q4];exact h.cl,hprm.took hl0 x1 n2 n4 n3 hT (fun j _=>q10 j),q8,hsmall,fun h0=>absurd h0 (show ¬ (0:Int)≤-1 by decide),fun h0=>absurd h0 (show ¬ (0:Int)≤-1 by decide),by show W.done.Sublist K;rw [q6];exact h.ack,fun m hm=>?_⟩,q7,fun hc=>absurd hc (show ¬ (16:Int)=0 by decide),fun _=>q6⟩
  have hc:W.resign.c m=w.c m:=by show W.cl.getD m default=w.cl.getD m default;rw [q4]
  rw [hc]
  exact ⟨(h.cli m hm).1,((h.cli m hm).2.up (by omega)).gone _⟩
 rw [if_neg hlen]
 have hhv:∀ j,j∈hv→j<3:=fun j hj=>by have:=q1.subset hj;simp at this;omega
 have hWup:∀ j,j<3→W.f j=true→(W.s j).up=true:=fun j hj hf=>by
  rcases q12 j (hin j hj) with a|a
  ·rw [(q9 j).1];exact (h.fol hl0 j hj a.2.1).1
  ·rw [a.1] at hf;cases hf
 obtain ⟨c1,c2,c3,c4,c5,c6,c7,c8,c9,c10⟩:=qa (g:=g') hv W [] (fun j hj=>⟨hhv j hj,hWup j (hhv j hj) (q13 j hj).1⟩) q2 q8
 have hlin:=q14 w.leader.toNat (by omega) (hin _ hli) hlf
 have hlx:=q13 _ hlin
 have hack:=hprm.ackd hl0 x1 n2 n4 n3 hT (fun j _=>q10 j) hlx.2.1 ((KF q1 (by omega)).mono fun j _ hj=>(q13 j hj).2)
 unfold lJ
 simp only
 generalize ba hv W []=R at c1 c2 c3 c4 c5 c6 c7 c8 c9 c10 ⊢
 rw [if_neg (fun h=>h c1)]
 have hRl:R.1.leader=w.leader:=by rw [c5,q5]
 have hRc:R.1.cl=w.cl:=by rw [c4,q4]
 have hlast:az (g w.leader.toNat).D≤az (g' w.leader.toNat).D:=by rw [hlx.2.1,fw];omega
 have hwi:WInv { R.1 with done:=R.1.done++[x] } g' es ((g w.leader.toNat).D++[x]) (n+1):=by
  refine ⟨c2,by show R.1.fl.length=3;rw [c3];exact q3,by show R.1.cl.length=16;rw [hRc];exact h.cl,by show Pr g' R.1.leader es _ _;rw [hRl];exact hack,c8,hsmall,fun _=>?_,fun _ j hj hf=>?_,?_,fun m hm=>?_⟩
  ·show R.1.fl.getD R.1.leader.toNat false=true∧(R.1.s R.1.leader.toNat).peer.done=((g' R.1.leader.toNat).D.length:Int)
   rw [hRl,c3]
   exact ⟨hlx.1,c10 _ (.inl hlin)⟩
  ·show (R.1.s j).up=true∧(g' j).D=(g' R.1.leader.toNat).D
   have hfj:W.f j=true:=by
    have:R.1.fl.getD j false=true:=hf
    rw [c3] at this;exact this
   rw [hRl,c9,hlx.2.1]
   refine ⟨hWup j hj hfj,?_⟩
   rcases q12 j (hin j hj) with a|a
   ·exact a.2.2.2.1
   ·rw [a.1] at hfj;cases hfj
  ·show (R.1.done++[x]).Sublist _
   rw [c6,q6]
   exact (h.ack.trans (h.pr.k3 hl0).sublist).append (List.Sublist.refl _)
  ·have hc:({ R.1 with done:=R.1.done++[x] }:AWorld).c m=w.c m:=by show R.1.cl.getD m default=w.cl.getD m default;rw [hRc]
   rw [hc]
   refine ⟨(h.cli m hm).1,?_⟩
   show Old R.1.leader es (g' R.1.leader.toNat).D (n+1) _
   rw [hRl]
   exact ((h.cli m hm).2.up (by omega)).more hlast
 have ht:=hwi.tell R.2.1
 have hwho:d.client.toNat<16:=by omega
 have hcwho:(eF { R.1 with done:=R.1.done++[x] } R.2.1).c d.client.toNat=⟨(w.c d.client.toNat).session,(w.c d.client.toNat).seen,dZ (w.c d.client.toNat).session (w.c d.client.toNat).cache R.2.1⟩:=by
  rw [uV (by show d.client.toNat<R.1.cl.length;rw [hRc,h.cl];exact hwho)]
  have hc:({ R.1 with done:=R.1.done++[x] }:AWorld).c d.client.toNat=w.c d.client.toNat:=by show R.1.cl.getD _ default=w.cl.getD _ default;rw [hRc]
  rw [hc]
 have hseen:(w.c d.client.toNat).seen≤x.zxid:=by
  have ho:=(h.cli _ hwho).2
  rcases ho.2.2.2 hl0 with a|a<;>omega
 have hsee:gI ((eF { R.1 with done:=R.1.done++[x] } R.2.1).c d.client.toNat) x.zxid=(⟨(w.c d.client.toNat).session,x.zxid,dZ (w.c d.client.toNat).session (w.c d.client.toNat).cache R.2.1⟩,0):=by
  rw [hcwho];unfold gI;rw [if_neg (by simp only;omega)]
 rw [hsee,if_neg (fun h=>h rfl)]
 refine ⟨g',_,WInv.setC ht hwho (h.cli _ hwho).1 ?_,?_,fun _=>⟨x,?_,rfl⟩,fun hc=>absurd rfl hc⟩
 ·show Old R.1.leader es (g' R.1.leader.toNat).D (n+1) x.zxid
  rw [hRl,hlx.2.1]
  have hes:=h.pr.es0
  exact ⟨by omega,by omega,n3,fun _=>.inr (by rw [fw];exact Int.le_refl _)⟩
 ·show R.1.deeds=w.deeds
  rw [c7,q7]
 ·show R.1.done++[x]=w.done++[x]
  rw [c6,q6]
theorem Ch:gy []=0:=by decide +kernel
theorem DF {i:Nat} (hi:i<3):cK i []=(⟨true,⟨mkD none [] []⟩,⟨i,0,[],0⟩,t00,[]⟩,0):=by
 unfold cK
 rw [if_neg (by omega),Ds,if_neg (fun h=>h rfl),Ch]
theorem FT {i:Nat} (hi:i<3):dQ.s i=⟨true,⟨mkD none [] []⟩,⟨i,0,[],0⟩,t00,[]⟩:=by
 have:dQ.s i=(cK i []).1:=by
  have hc:i=0∨i=1∨i=2:=by omega
  rcases hc with rfl|rfl|rfl<;>rfl
 rw [this,DF hi]
theorem KR {i:Nat} (hi:i<16):dQ.c i=⟨(i:Int)+1,0,[]⟩:=by
 unfold dQ AWorld.c
 simp only
 rw [List.getD_eq_getElem?_getD,List.getElem?_map,List.getElem?_eq_getElem (by simpa using hi),List.getElem_range];rfl
theorem Hi (i:Int):UpOk ⟨true,⟨mkD none [] []⟩,⟨i,0,[],0⟩,t00,[]⟩ none 0:=
 ⟨rfl,rfl,Nat.le_refl _,kV,by simp [fe],fun x hx=>(by cases hx),Int.le_refl _,Int.le_refl _,rfl,⟨t00,rfl⟩⟩
theorem WInv.start:WInv dQ (fun _=>⟨[],0,0⟩) 0 [] 0:=by
 refine ⟨rfl,rfl,rfl,Pr.start,fun j hj=>?_,fun _ _=>Nat.le_refl _,fun h=>absurd h (show ¬ (0:Int)≤-1 by decide),fun h=>absurd h (show ¬ (0:Int)≤-1 by decide),List.Sublist.refl _,fun i hi=>?_⟩
 ·rw [FT hj]
  exact ⟨rfl,fun _=>⟨none,.inl ⟨rfl,rfl⟩,Hi _,rfl,rfl⟩,fun h=>(by cases h)⟩
 ·rw [KR hi]
  exact ⟨rfl,Pr.start.zero⟩
theorem WInv.act {w:AWorld} {g:Nat→Gh} {es:Int} {K:List ATxn} {n:Nat} (h:WInv w g es K n) (hn:n<1000) (d:ADeed):∃ g' es' K',WInv (pC w d).1 g' es' K' (n+1):=by
 unfold pC
 split
 ·obtain ⟨g',K',hh,_⟩:=h.write hn d;exact ⟨g',es,K',hh⟩
 split
 ·exact ⟨g,es,K,(h.read d).mono (by omega)⟩
 split
 ·obtain ⟨g',es',hh,_⟩:=h.elect hn;exact ⟨g',es',K,hh⟩
 split
 ·split
  ·exact ⟨g,es,K,h.mono (by omega)⟩
  split
  ·exact ⟨g,es,K,(h.up (by omega)).mono (by omega)⟩
  ·obtain ⟨g',hh⟩:=h.crash (i:=d.server.toNat) (by omega) d.keep
   exact ⟨g',es,K,hh.mono (by omega)⟩
 ·exact ⟨g,es,K,h.mono (by omega)⟩
theorem WInv.does {w:AWorld} {g:Nat→Gh} {es:Int} {K:List ATxn} {n:Nat} (h:WInv w g es K n) (hn:n<1000) (d:ADeed):∃ g' es' K',WInv (doW w d).1 g' es' K' (n+1):=by
 unfold doW
 split
 ·exact ⟨g,es,K,h.mono (by omega)⟩
 ·exact (h.deeds (w.deeds+1)).act hn d
def fY (w:AWorld) (l:List ADeed):AWorld:=l.foldl (fun w d=>(doW w d).1) w
theorem WInv.trees {w:AWorld} {g:Nat→Gh} {es:Int} {K:List ATxn} {n:Nat} (h:WInv w g es K n) {j:Nat} (hj:j<3) :
  0≤(w.s j).peer.done∧(w.s j).peer.done≤(w.s j).peer.log.length∧bO t00 ((w.s j).peer.log.take (w.s j).peer.done.toNat)=some (w.s j).tree∧aI (w.s j).tree=true:=by
 have hs:=h.sv j hj
 cases hu:(w.s j).up
 ·obtain ⟨e,_,hk,_⟩:=hs.2.2 hu
  rw [hk.done,hk.log,hk.tree]
  exact ⟨Int.le_refl _,Int.le_refl _,rfl,nD⟩
 ·obtain ⟨e,_,hk,_⟩:=hs.2.1 hu
  exact ⟨hk.d0,hk.dl,hk.tree,ou nD hk.tree⟩
def cP:ADeed:=⟨5,0,0,default,0,0,0,false⟩
theorem cu {z:Int} (h0:0≤z) (h1:z<9223372036854775808):okI z:=by unfold okI;omega
theorem kT {t:ATree} (hg:aI t=true):okT t∧t.nodes.length≤400∧t.sessions.length≤2147483647∧∀ n,n∈t.nodes→n.path.length≤200∧n.data.length≤256:=by
 obtain ⟨p1,p2⟩:=u9 hg
 obtain ⟨h1,h2,_,_⟩:=bq.1 hg
 obtain ⟨_,h3⟩:=kL.1 h2
 have hz:=h1.2.2.2.2
 unfold bR at hz
 have hl:=ri hg
 have hn:∀ n,n∈t.nodes→n.path.length≤200∧n.data.length≤256:=fun n hn=>⟨(iI (p1.good _ (List.mem_map_of_mem hn))).2.2.1,(p2 n hn).data⟩
 refine ⟨⟨⟨cu hz.1 (by omega),⟨by have:=h1.2.1;omega,fun n hm=>?_⟩,⟨by omega,fun s hs=>?_⟩⟩,fun n hm=>by have:=(hn n hm).1;omega⟩,h1.2.1,hl,hn⟩
 ·have hk:=p2 n hm
  have hs:=hn n hm
  obtain ⟨z1,z2,z3,z4,z5⟩:=hk.zs
  have hkl:=rm (aK t) n.path
  have hl4:=p1.len
  have hkk:=hk.kids
  refine ⟨by unfold okS;omega,by unfold okS;omega,cu z1 (by omega),cu (by omega) (by omega),cu (by omega) (by omega),cu hk.v.1 (by have:=hk.v.2;omega),cu hk.cv.1 (by have:=hk.cv.2;omega),?_,cu (by omega) (by omega)⟩
  by_cases ho:n.stat.owner=0
  ·rw [ho];exact cu (by decide) (by decide)
  ·have:=h3 _ (hk.own ho).1
   exact cu (by omega) (by omega)
 ·have:=h3 s hs
  exact cu (by omega) (by omega)
theorem FV {x:ATxn} (h:aN x=0):x.wf∧x.path.length≤200:=by
 obtain ⟨g1,g2,g3,g4,g5,g6,g7⟩:=eX h
 exact ⟨⟨cu g1.1 g1.2,cu (by omega) (by omega),cu (by omega) (by omega),by unfold okS;omega,by unfold okS;omega,cu (by omega) (by omega),cu (by omega) (by omega)⟩,g6⟩
theorem DT {e:Option (List UInt8)} {s t:List UInt8} (h:okD e s t):ADisk.wf ⟨mkD e s t⟩:=by
 have hn1:okS epN:=by unfold okS;decide
 have hn2:okS logN:=by unfold okS;decide
 have h0:okS []:=by unfold okS;decide
 have h2:=h.2
 cases e with
 |none=>exact ⟨by simp [mkD],fun f hf=>by rw [List.mem_singleton.1 hf];exact ⟨hn2,by show s.length≤_;omega,by show t.length≤_;omega⟩⟩
 | some x=>
   have:=h.1 x rfl
   refine ⟨by simp [mkD],fun f hf=>?_⟩
   rcases List.mem_cons.1 hf with e|e
   ·rw [e];exact ⟨hn1,by show x.length≤_;omega,h0⟩
   ·rw [List.mem_singleton.1 e];exact ⟨hn2,by show s.length≤_;omega,by show t.length≤_;omega⟩
def eG (l:List AWatch):Prop:=l.length≤400∧∀ x,x∈l→x.wf∧x.path.length≤200
theorem eG.sub {l m:List AWatch} (h:eG l) (hs:m.Sublist l):eG m:=⟨Nat.le_trans hs.length_le h.1,fun x hx=>h.2 x (hs.subset hx)⟩
theorem eG.nil:eG []:=⟨Nat.zero_le _,fun x hx=>by cases hx⟩
theorem eG.add {l:List AWatch} (h:eG l) {x:AWatch} (hx:(jj l x).2=0):eG (jj l x).1:=by
 unfold jj at hx ⊢
 split
 ·exact eG.nil
 rename_i h1
 rw [if_neg h1] at hx
 split
 ·exact eG.nil
 rename_i h2
 rw [if_neg h2] at hx
 split
 ·exact eG.nil
 rename_i h3
 rw [if_neg h3] at hx
 split
 ·exact h
 rename_i h4
 rw [if_neg h4] at hx
 split
 ·exact eG.nil
 rename_i h5
 have hp:=(iI (Classical.not_not.1 h2)).2.2.1
 refine ⟨by simp only [List.length_append,List.length_singleton];omega,fun y hy=>?_⟩
 rcases List.mem_append.1 hy with e|e
 ·exact h.2 y e
 ·rw [List.mem_singleton.1 e]
  exact ⟨⟨cu (by omega) (by omega),cu (by omega) (by omega),by unfold okS;omega⟩,hp⟩
theorem rP:∀ (es:List AEvent) (p:List ANote×List AWatch),(es.foldl lE p).2.Sublist p.2
 |[],p=>List.Sublist.refl _
 |e::es,p=>(rP es (lE p e)).trans (by unfold lE keptW;exact List.filter_sublist)
theorem wK:∀ (X:List ATxn) (p:CSt),(iM X p).1.w.Sublist p.w
 |[],p=>List.Sublist.refl _
 | x :: X,p=>by
   rw [iM]
   split
   ·refine (wK X _).trans ?_
    unfold jS
    simp only
    split
    ·exact List.filter_sublist.trans (rP _ _)
    ·exact rP _ _
   ·exact List.Sublist.refl _
theorem commit_sub (s:AServer) (n:Int):(ax s n).1.watches.Sublist s.watches:=by
 unfold ax
 split
 ·exact List.nil_sublist _
 ·simp only
  split
  ·exact wK _ _
  ·exact List.nil_sublist _
theorem gL.wf {s:AServer} {g:Gh} {j n:Nat} (h:gL s g j) (hj:j<3) (hn:g.D.length≤n) (hn2:n<100000) (hE:0≤g.E∧g.E≤n) (hw:eG s.watches):s.wf∧okT s.tree∧aI s.tree=true∧∀ x,x∈s.peer.log→x.wf∧x.path.length≤200:=by
 obtain ⟨hid,h1,h2⟩:=h
 have hwl:=hw.1
 have hww:s.watches.length*32≤140737488351232∧∀ y:AWatch,y∈s.watches→y.wf:=⟨by omega,fun y hy=>(hw.2 y hy).1⟩
 have hidk:okI s.peer.id:=by rw [hid];exact cu (by omega) (by omega)
 cases hu:s.up
 ·obtain ⟨e,_,hk,_⟩:=h2 hu
  obtain ⟨c,c1,c2,_⟩:=hk.disk
  have hg:aI s.tree=true:=by rw [hk.tree];exact nD
  have hdw:s.disk.wf:=by
   have:=DT (e:=e) (s:=c) (t:=[]) ⟨hk.elen,by simpa using c2⟩
   unfold ADisk.wf at this ⊢
   rw [c1];exact this
  refine ⟨⟨trivial,hdw,⟨hidk,by rw [hk.ep];exact cu (by decide) (by decide),⟨by rw [hk.log];simp,fun x hm=>by rw [hk.log] at hm;cases hm⟩,by rw [hk.done];exact cu (by decide) (by decide)⟩,(kT hg).1.1,hww⟩,(kT hg).1,hg,fun x hm=>by rw [hk.log] at hm;cases hm⟩
 ·obtain ⟨e,_,hk,hlg,hep⟩:=h1 hu
  have hg:aI s.tree=true:=ou nD hk.tree
  have hdw:s.disk.wf:=by
   have:=DT hk.okD
   unfold ADisk.wf at this ⊢
   rw [hk.disk];exact this
  have hx:∀ x,x∈s.peer.log→x.wf∧x.path.length≤200:=fun x hx=>FV (hk.log.2 x hx)
  have hd0:=hk.d0
  have hdl:=hk.dl
  rw [hlg] at hdl
  exact ⟨⟨trivial,hdw,⟨hidk,by rw [hep];exact cu hE.1 (by omega),⟨by rw [hlg];omega,fun x hm=>(hx x hm).1⟩,cu hd0 (by omega)⟩,(kT hg).1.1,hww⟩,(kT hg).1,hg,hx⟩
def cd (w:AWorld):Prop:=∀ j,eG (w.s j).watches
theorem E1 (w:AWorld) (i:Nat) (s:AServer) (j:Nat):(w.setS i s).s j=s∨(w.setS i s).s j=w.s j:=by
 by_cases h:i<w.sv.length
 ·rw [ez h]
  split
  ·exact .inl rfl
  ·exact .inr rfl
 ·right
  unfold AWorld.setS AWorld.s
  simp only
  rw [List.set_eq_of_length_le (by omega)]
theorem cd.set {w:AWorld} (h:cd w) {s:AServer} (hs:eG s.watches) (i:Nat):cd (w.setS i s):=fun j=>by
 rcases E1 w i s j with e|e
 ·rw [e];exact hs
 ·rw [e];exact h j
theorem take_sub (s:AServer) (x:ATxn) (safe:Bool):(bh s x safe).1.watches.Sublist s.watches:=by
 unfold bh
 split
 ·exact List.nil_sublist _
 ·split
  ·exact List.Sublist.refl _
  ·exact List.nil_sublist _
theorem tF:∀ (r:List ATxn) (s:AServer),(ex s r).1.watches.Sublist s.watches
 |[],s=>List.Sublist.refl _
 | x::r,s=>by
   rw [ex]
   split
   ·exact (tF r _).trans (take_sub s x true)
   ·exact List.nil_sublist _
theorem ji (s:AServer) (l:List ATxn) (ep:Int):(aF s l ep).1.watches.Sublist s.watches:=by
 unfold aF
 split
 ·exact List.nil_sublist _
 split
 ·exact List.nil_sublist _
 split
 ·exact List.nil_sublist _
 exact tF _ _
theorem crash_sub (s:AServer) (keep:Int):(bL s keep).1.watches=[]:=by
 unfold bL
 split<;>rfl
theorem boot_sub (i:Int) (l:List AFile):(cK i l).1.watches=[]:=by
 unfold cK
 split
 ·rfl
 split<;>rfl
theorem lQ {l:List ATxn} {ep:Int}:∀ (r:List Nat) {w:AWorld} {ns:List ANote},cd w→cd (bo l ep r w ns).1
 |[],w,ns,h=>h
 | i::r,w,ns,h=>by
   rw [bo]
   split
   ·exact lQ r h
   split
   ·exact h
   split
   ·exact h
   refine lQ r ?_
   have:eG (ax (aF (w.s i) l ep).1 l.length).1.watches:=((h i).sub (ji _ _ _)).sub (commit_sub _ _)
   exact h.set this i
theorem iC {x:ATxn} {lead lost slow:Int}:∀ (r:List Nat) {w:AWorld} {hv:List Nat},cd w→cd (bG x lead lost slow r w hv).1
 |[],w,hv,h=>h
 | i::r,w,hv,h=>by
   rw [bG]
   split
   ·exact iC r h
   split
   ·exact iC r (w:=w.setF i false) h
   split
   ·exact h
   exact iC r (h.set ((h i).sub (take_sub _ _ _)) i)
theorem pp:∀ (r:List Nat) {w:AWorld} {ns:List ANote},cd w→cd (ba r w ns).1
 |[],w,ns,h=>h
 | i::r,w,ns,h=>by
   rw [ba]
   split
   ·exact h
   exact pp r (h.set ((h i).sub (commit_sub _ _)) i)
theorem cd.act {w:AWorld} (h:cd w) (d:ADeed):cd (pC w d).1:=by
 unfold pC
 split
 ·unfold d6
  split
  ·exact h
  split
  ·exact h
  split
  ·exact h
  simp only
  split
  ·exact h
  have ht:=iC (x:=(cr (w.s w.leader.toNat).tree (dC (w.s w.leader.toNat).peer).1 (kE w d)).1) (lead:=w.leader) (lost:=d.lost) (slow:=d.slow) [0,1,2] (hv:=[]) h
  generalize bG _ _ _ _ _ _ _=R at ht ⊢
  split
  ·exact ht
  split
  ·exact ht
  unfold lJ
  simp only
  have hc:=pp R.2.1 (ns:=[]) ht
  generalize ba _ _ _=Q at hc ⊢
  split
  ·exact hc
  split
  ·exact hc
  ·exact hc
 split
 ·unfold iO
  split
  ·exact h
  simp only
  split
  ·exact h
  split
  ·exact h
  split
  ·split
   ·exact h
   ·rename_i ha
    refine cd.set (w:=w) h ?_ d.server.toNat
    exact (h d.server.toNat).add (Classical.not_not.1 ha)
  ·exact h
 split
 ·unfold dv
  split
  ·exact h
  simp only
  have ht:=lQ (l:=((bt w).getD (bT (bt w)).1.toNat default).log) (ep:=(bT (bt w)).2.1) [0,1,2] (w:=w.resign) (ns:=[]) h
  generalize bo _ _ _ _ _=R at ht ⊢
  split
  ·exact ht
  ·exact ht
 split
 ·split
  ·exact h
  split
  ·unfold upW
   split
   ·exact h
   split
   ·exact h
   exact h.set (by rw [boot_sub];exact eG.nil) _
  ·unfold gW
   split
   ·exact h
   split
   ·exact h
   have hs:cd (w.setS d.server.toNat (bL (w.s d.server.toNat) d.keep).1):=h.set (by rw [crash_sub];exact eG.nil) _
   simp only
   split
   ·exact hs
   ·exact hs
 ·exact h
theorem cd.does {w:AWorld} (h:cd w) (d:ADeed):cd (doW w d).1:=by
 unfold doW
 split
 ·exact h
 ·exact cd.act (w:={ w with deeds:=w.deeds+1 }) h d
theorem cd.start:cd dQ:=fun j=>by
 by_cases h:j<3
 ·rw [FT h];exact eG.nil
 ·have:dQ.s j=default:=by
   unfold AWorld.s
   rw [List.getD_eq_getElem?_getD,List.getElem?_eq_none (by show 3≤j;omega)];rfl
  rw [this];exact eG.nil
theorem jF {l:List ATxn} {ep:Int}:∀ (r:List Nat) (w:AWorld) (ns:List ANote),(bo l ep r w ns).1.deeds=w.deeds
 |[],w,ns=>rfl
 | i::r,w,ns=>by
   rw [bo]
   split
   ·exact jF r w ns
   split
   ·rfl
   split
   ·rfl
   rw [jF r];rfl
theorem g9 {x:ATxn} {lead lost slow:Int}:∀ (r:List Nat) (w:AWorld) (hv:List Nat),(bG x lead lost slow r w hv).1.deeds=w.deeds
 |[],w,hv=>rfl
 | i::r,w,hv=>by
   rw [bG]
   split
   ·exact g9 r w hv
   split
   ·rw [g9 r];rfl
   split
   ·rfl
   rw [g9 r];rfl
theorem lL:∀ (r:List Nat) (w:AWorld) (ns:List ANote),(ba r w ns).1.deeds=w.deeds
 |[],w,ns=>rfl
 | i::r,w,ns=>by
   rw [ba]
   split
   ·rfl
   rw [lL r];rfl
theorem Dp (w:AWorld) (d:ADeed):(pC w d).1.deeds=w.deeds:=by
 unfold pC
 split
 ·unfold d6
  split
  ·rfl
  split
  ·rfl
  split
  ·rfl
  simp only
  split
  ·rfl
  have ht:=g9 (x:=(cr (w.s w.leader.toNat).tree (dC (w.s w.leader.toNat).peer).1 (kE w d)).1) (lead:=w.leader) (lost:=d.lost) (slow:=d.slow) [0,1,2] w []
  generalize bG _ _ _ _ _ _ _=R at ht ⊢
  split
  ·exact ht
  split
  ·exact ht
  unfold lJ
  simp only
  have hc:=lL R.2.1 R.1 []
  generalize ba _ _ _=Q at hc ⊢
  split
  ·exact hc.trans ht
  split
  ·exact hc.trans ht
  ·exact hc.trans ht
 split
 ·unfold iO
  split
  ·rfl
  simp only
  split
  ·rfl
  split
  ·rfl
  split
  ·split
   ·rfl
   ·rfl
  ·rfl
 split
 ·unfold dv
  split
  ·rfl
  simp only
  have ht:=jF (l:=((bt w).getD (bT (bt w)).1.toNat default).log) (ep:=(bT (bt w)).2.1) [0,1,2] w.resign []
  generalize bo _ _ _ _ _=R at ht ⊢
  split
  ·exact ht
  ·exact ht
 split
 ·split
  ·rfl
  split
  ·unfold upW
   split
   ·rfl
   split
   ·rfl
   ·rfl
  ·unfold gW
   split
   ·rfl
   split
   ·rfl
   simp only
   split
   ·rfl
   ·rfl
 ·rfl
theorem D8 {w:AWorld} (h:w.deeds<300) (d:ADeed):(doW w d).1.deeds=w.deeds+1:=by
 unfold doW
 rw [if_neg (by omega),Dp]
theorem In {w:AWorld} (h:300≤w.deeds) (d:ADeed):doW w d=(w,noR 6):=by
 unfold doW;rw [if_pos h]
end Go.Proofs.YtjcooccnfkfjhaaGreatDoor
