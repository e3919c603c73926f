/- A part of what Tops leans on: texts of this claim, one behind the other. No condition. -/
import Derived.Test.YtjcooccnfkfjhaaGreatDoorTopsK10
namespace Go.Proofs.YtjcooccnfkfjhaaGreatDoor
set_option linter.unusedVariables false
set_option linter.unusedSimpArgs false
open Go Go.RowKit
set_option maxRecDepth 100000
def bB (t:ATree):List ATxn→Option ATree
  | []=>some t
  | x::r=>if (ar t x).2.2=0 then bB (ar t x).1 r else none
theorem lT (a b:List ATxn):∀ t,bB t (a++b)=(bB t a).bind fun u=>bB u b:=by
  induction a with
  | nil=>intro t;rfl
  | cons x a ih=>
    intro t
    rw [List.cons_append,bB,bB]
    split
    · exact ih _
    · rfl
theorem ie {t u:ATree} {l:List ATxn} (h:bB t l=some u) (k:Nat):∃ v,bB t (l.take k)=some v:=by
  rw [←List.take_append_drop k l,lT] at h
  cases e:bB t (l.take k) with
  | none=>rw [e] at h;cases h
  | some v=>exact ⟨v,rfl⟩
theorem CS {t u v:ATree} {a b:List ATxn} (h1:bB t a=some u) (h2:bB t (a++b)=some v):bB u b=some v:=by
  rw [lT,h1] at h2;exact h2
theorem uJ:∀ (X:List ATxn) (p:CSt) {v:ATree},bB p.t X=some v→(jg X p).2=0∧(jg X p).1.t=v
  | [],p,v,h=>by injection h with h;exact ⟨rfl,h⟩
  | x :: X,p,v,h=>by
    rw [bB] at h
    split at h
    · rename_i he
      rw [oR he]
      exact uJ X (kw (ar p.t x) p x) h
    · cases h
structure UpOk (s:AServer) (e:Option (List UInt8)) (a:Nat):Prop where
  up:s.up=true
  disk:s.disk.files=mkD e (encs (s.peer.log.take a)) (encs (s.peer.log.drop a))
  le:a≤s.peer.log.length
  log:logOk s.peer.log
  small:(encs s.peer.log).length≤1048576
  elen:∀ x,e=some x→x.length≤1048576
  d0:0≤s.peer.done
  dl:s.peer.done≤s.peer.log.length
  tree:bB t00 (s.peer.log.take s.peer.done.toNat)=some s.tree
  play:∃ v,bB t00 s.peer.log=some v
theorem eS (l:List ATxn) (a:Nat):encs (l.take a)++encs (l.drop a)=encs l:=by rw [←xv,List.take_append_drop]
theorem UpOk.okD {s:AServer} {e:Option (List UInt8)} {a:Nat} (h:UpOk s e a):okD e (encs (s.peer.log.take a)) (encs (s.peer.log.drop a)):=
  ⟨h.elen,by rw [←List.length_append,eS];exact h.small⟩
theorem UpOk.scan {s:AServer} {e:Option (List UInt8)} {a:Nat} (h:UpOk s e a):scanT (encs s.peer.log)=(s.peer.log,(encs s.peer.log).length):=by
  have:=ym h.log (rest:=[]) BA
  rwa [List.append_nil] at this
theorem UpOk.recovers {s:AServer} {e:Option (List UInt8)} {a:Nat} (h:UpOk s e a):recoverD s.disk.files=(s.peer.log,⟨mkD e (encs s.peer.log) []⟩,0):=by
  rw [h.disk,kj h.okD,eS,h.scan]
theorem UpOk.good {s:AServer} {e:Option (List UInt8)} {a:Nat} (h:UpOk s e a):bL s.disk.files=true:=by rw [h.disk];exact fD h.okD
theorem UpOk.take {s:AServer} {e:Option (List UInt8)} {a:Nat} (h:UpOk s e a) {x:ATxn} (hx:aO x=0) (hz:ay s.peer.log < x.zxid) (hl:(encs s.peer.log).length+(cL x).1.length≤1048576) (hp:∃ v,bB t00 (s.peer.log++[x])=some v) (safe:Bool) :
    ∃ d,bo s x safe=(⟨s.up,d,⟨s.peer.id,s.peer.epoch,s.peer.log++[x],s.peer.done⟩,s.tree,s.watches⟩,0)∧UpOk ⟨s.up,d,⟨s.peer.id,s.peer.epoch,s.peer.log++[x],s.peer.done⟩,s.tree,s.watches⟩ e (if safe then s.peer.log.length+1 else a):=by
  have hle:=h.le
  have hlen:(encs (s.peer.log.take a)).length+(encs (s.peer.log.drop a)).length=(encs s.peer.log).length:=by rw [←List.length_append,eS]
  have hap:=Eh h.okD hx (by omega) safe
  refine ⟨(cZ s.disk.files x safe).1,?_,?_⟩
  · unfold bo
    rw [if_neg (by omega),if_pos (by rw [h.disk,hap])]
  · have hd:(cZ s.disk.files x safe).1.files=mkD e (encs ((s.peer.log++[x]).take (if safe then s.peer.log.length+1 else a))) (encs ((s.peer.log++[x]).drop (if safe then s.peer.log.length+1 else a))):=by
      rw [h.disk,hap]
      cases safe with
      | true=>
        simp only [if_true]
        have e1:(s.peer.log++[x]).take (s.peer.log.length+1)=s.peer.log++[x]:=List.take_of_length_le (by simp)
        have e2:(s.peer.log++[x]).drop (s.peer.log.length+1)=[]:=List.drop_eq_nil_of_le (by simp)
        rw [e1,e2,fF,jl,←List.append_assoc,eS]
      | false=>
        simp only [Bool.false_eq_true,if_false]
        rw [List.take_append_of_le_length hle,List.drop_append_of_le_length hle,jl]
    refine ⟨h.up,hd,?_,jX h.log (fun _=>hz) hx,by simp only;rw [jl,List.length_append];exact hl,h.elen,h.d0,?_,?_,hp⟩
    · simp only [List.length_append,List.length_singleton];split<;>omega
    · have:=h.dl;simp only [List.length_append,List.length_singleton];omega
    · have:=h.dl;have:=h.d0
      simp only
      rw [List.take_append_of_le_length (by omega)];exact h.tree
structure DownOk (s:AServer) (e:Option (List UInt8)) (l:List ATxn):Prop where
  up:s.up=false
  disk:∃ c,s.disk.files=mkD e c []∧c.length≤1048576∧(scanT c).1=l
  elen:∀ x,e=some x→x.length≤1048576
  log:s.peer.log=[]
  done:s.peer.done=0
  ep:s.peer.epoch=0
  tree:s.tree=t00
  watches:s.watches=[]
  play:∃ v,bB t00 l=some v
theorem UpOk.crash {s:AServer} {e:Option (List UInt8)} {a:Nat} (h:UpOk s e a) {keep:Int} (hk:0≤keep):∃ k,a≤k∧k≤s.peer.log.length∧(bw s keep).2=0∧DownOk (bw s keep).1 e (s.peer.log.take k)∧(bw s keep).1.peer.id=s.peer.id:=by
  have hc:=Ga h.okD hk
  have hle:=h.le
  have hpre:encs (s.peer.log.take a)++(encs (s.peer.log.drop a)).take keep.toNat=(encs s.peer.log).take ((encs (s.peer.log.take a)).length+keep.toNat):=by
    conv=>rhs;rw [←eS s.peer.log a]
    rw [List.take_append,List.take_of_length_le (Nat.le_add_right _ _),Nat.add_sub_cancel_left]
  obtain ⟨k,k1,k2,k3⟩:=GH h.log ((encs (s.peer.log.take a)).length+keep.toNat)
  have he:fT s.disk.files keep=(⟨mkD e ((encs s.peer.log).take ((encs (s.peer.log.take a)).length+keep.toNat)) []⟩,0):=by rw [h.disk,hc,hpre]
  have hs:bw s keep=(⟨false,⟨mkD e ((encs s.peer.log).take ((encs (s.peer.log.take a)).length+keep.toNat)) []⟩,⟨s.peer.id,0,[],0⟩,t00,[]⟩,0):=by
    unfold bw;rw [he,if_pos rfl]
  refine ⟨k,k3 a hle (Nat.le_add_right _ _),k1,by rw [hs],?_,by rw [hs]⟩
  rw [hs]
  exact ⟨rfl,⟨_,rfl,by rw [List.length_take];have:=h.small;omega,by rw [k2]⟩,h.elen,rfl,rfl,rfl,rfl,rfl,by obtain ⟨v,hv⟩:=h.play;exact ie hv k⟩
theorem DownOk.logOk {s:AServer} {e:Option (List UInt8)} {l:List ATxn} (h:DownOk s e l):logOk l:=by
  obtain ⟨c,_,_,h3⟩:=h.disk
  rw [←h3];exact (om c).1
theorem DownOk.good {s:AServer} {e:Option (List UInt8)} {l:List ATxn} (h:DownOk s e l):bL s.disk.files=true:=by
  obtain ⟨c,h1,h2,_⟩:=h.disk
  rw [h1];exact fD ⟨h.elen,by simpa using h2⟩
theorem DownOk.recovers {s:AServer} {e:Option (List UInt8)} {l:List ATxn} (h:DownOk s e l):recoverD s.disk.files=(l,⟨mkD e (encs l) []⟩,0)∧(encs l).length≤1048576:=by
  obtain ⟨c,h1,h2,h3⟩:=h.disk
  have hr:=kj (e:=e) (s:=c) (t:=[]) ⟨h.elen,by simpa using h2⟩
  have hsm:=AH c
  rw [List.append_nil,h3] at hr
  rw [h3] at hsm
  exact ⟨by rw [h1,hr],by omega⟩
theorem DownOk.boot {s:AServer} {e:Option (List UInt8)} {l:List ATxn} (h:DownOk s e l) (id ep:Int):UpOk ⟨true,⟨mkD e (encs l) []⟩,⟨id,ep,l,0⟩,t00,[]⟩ e l.length:=by
  refine ⟨rfl,?_,Nat.le_refl _,h.logOk,h.recovers.2,h.elen,Int.le_refl _,by simp,?_,h.play⟩
  · simp only;rw [List.take_length,List.drop_length,fF]
  · show bB t00 (l.take 0)=some t00
    rw [List.take_zero];rfl
theorem UpOk.commit {s:AServer} {e:Option (List UInt8)} {a:Nat} (h:UpOk s e a) {n:Int} (h1:s.peer.done≤n) (h2:n≤s.peer.log.length) :
    ∃ t w ns,aC s n=(⟨s.up,s.disk,⟨s.peer.id,s.peer.epoch,s.peer.log,n⟩,t,w⟩,ns,0)∧UpOk ⟨s.up,s.disk,⟨s.peer.id,s.peer.epoch,s.peer.log,n⟩,t,w⟩ e a:=by
  have h0:=h.d0
  have hdl:=h.dl
  obtain ⟨v,hv⟩:=h.play
  obtain ⟨u,hu⟩:=ie hv n.toNat
  have hsplit:s.peer.log.take n.toNat=s.peer.log.take s.peer.done.toNat++(s.peer.log.drop s.peer.done.toNat).take (n.toNat - s.peer.done.toNat):=by
    conv=>lhs;rw [show n.toNat=s.peer.done.toNat+(n.toNat - s.peer.done.toNat) from by omega]
    rw [List.take_add]
  have hu2:=hu
  rw [hsplit] at hu2
  have hm:=CS h.tree hu2
  obtain ⟨r1,r2⟩:=uJ _ ⟨s.tree,s.watches,[]⟩ hm
  have hc:¬ (s.peer.done < 0∨n < s.peer.done∨(s.peer.log.length:Int) < n):=by omega
  generalize hR:jg ((s.peer.log.drop s.peer.done.toNat).take (n.toNat - s.peer.done.toNat)) ⟨s.tree,s.watches,[]⟩=R at r1 r2
  refine ⟨R.1.t,R.1.w,R.1.n,?_,?_⟩
  · unfold aC;rw [if_neg hc];simp only;rw [hR,if_pos r1]
  · exact ⟨h.up,h.disk,h.le,h.log,h.small,h.elen,by simp only;omega,h2,by simp only;rw [r2];exact hu,h.play⟩
def fK (l:List AFile):Int:=if (readD l epN).2≠0 then 0 else if (ko (readD l epN).1).2≠0 then 0 else epZ (ko (readD l epN).1).1
def bi (l:List AFile) (ep:Int):ADisk×Int:=
  if (mkZ ep 0).2≠0 then (default,(mkZ ep 0).2) else
  if (aR (if (bE l epN).2=0 then (bE l epN).1.files else l) epN (fJ (mkZ ep 0).1)).2≠0 then (default,(aR (if (bE l epN).2=0 then (bE l epN).1.files else l) epN (fJ (mkZ ep 0).1)).2) else
  br (aR (if (bE l epN).2=0 then (bE l epN).1.files else l) epN (fJ (mkZ ep 0).1)).1.files epN nQ
def cD (id:Int) (l:List AFile):AServer×Int:=
  if id < 0∨2 < id then (default,3) else if (recoverD l).2.2≠0 then (default,(recoverD l).2.2) else (⟨true,(recoverD l).2.1,⟨id,fK l,(recoverD l).1,0⟩,t00,[]⟩,0)
def bh:List ATxn→List ATxn→Nat
  | x::a,y::b=>if x.zxid=y.zxid then bh a b+1 else 0
  | _,_=>0
def eF (s:AServer):List ATxn→AServer×Int
  | []=>(s,0)
  | x::r=>if (bo s x true).2=0 then eF (bo s x true).1 r else (default,(bo s x true).2)
def fE (l:List ATxn) (k:Nat):Int:=if 0 < k then (l.getD (k - 1) default).zxid else -1
def aI (s:AServer) (l:List ATxn) (ep:Int):AServer×Int:=
  if (bh l s.peer.log:Int) < s.peer.done then (default,13) else
  if (keepD s.disk.files (fE l (bh l s.peer.log))).2≠0 then (default,(keepD s.disk.files (fE l (bh l s.peer.log))).2) else
  if (bi (keepD s.disk.files (fE l (bh l s.peer.log))).1.files ep).2≠0 then (default,(bi (keepD s.disk.files (fE l (bh l s.peer.log))).1.files ep).2) else
  eF ⟨s.up,(bi (keepD s.disk.files (fE l (bh l s.peer.log))).1.files ep).1,⟨s.peer.id,ep,s.peer.log.take (bh l s.peer.log),s.peer.done⟩,s.tree,s.watches⟩ (l.drop (bh l s.peer.log))
theorem jP:∀ (a b:List ATxn),bh a b≤a.length∧bh a b≤b.length
  | [],_=>⟨Nat.zero_le _,Nat.zero_le _⟩
  | _::_,[]=>⟨Nat.zero_le _,Nat.zero_le _⟩
  | x::a,y::b=>by
    have:=jP a b
    unfold bh
    split
    · simp only [List.length_cons];omega
    · exact ⟨Nat.zero_le _,Nat.zero_le _⟩
theorem mT:∀ (a b:List ATxn) (j:Nat),j < bh a b→(a.getD j default).zxid=(b.getD j default).zxid
  | [],_,_,h=>by simp [bh] at h
  | _::_,[],_,h=>by simp [bh] at h
  | x :: a,y::b,j,h=>by
    unfold bh at h
    split at h
    · rename_i e
      rcases j with _ | j
      · exact e
      · simpa using mT a b j (by omega)
    · omega
theorem lr {ep:Int} (h0:0≤ep) (h1:ep≤2147483647):mkZ ep 0=(ep*2147483648,0)∧bV (ep*2147483648)∧epZ (ep*2147483648)=ep:=by
  have hg:bV (ep*2147483648):=by unfold bV;omega
  refine ⟨?_,hg,?_⟩
  · unfold mkZ;rw [if_neg (by unfold tr;omega)];simp
  · unfold epZ;rw [if_pos hg];omega
def epB (ep:Int):List UInt8:=fJ (ep*2147483648)
theorem wv {ep:Int} (h0:0≤ep) (h1:ep≤2147483647):(epB ep).length≤21:=uF (lr h0 h1).2.1
theorem H6 {ep:Int} (h0:0≤ep) (h1:ep≤2147483647) {s t:List UInt8} (h:s.length+t.length≤1048576):fK (mkD (some (epB ep)) s t)=ep:=by
  obtain ⟨_,g2,g3⟩:=lr h0 h1
  have hl:=wv h0 h1
  have hr:=Hj (x:=epB ep) (s:=s) (t:=t) ⟨fun x hx=>by injection hx with hx;subst hx;omega,h⟩
  have hz:ko (epB ep)=(ep*2147483648,0):=CB g2
  unfold fK
  rw [hr,if_neg (fun h=>h rfl),hz,if_neg (fun h=>h rfl)]
  exact g3
theorem Ax {s t:List UInt8} (h:s.length+t.length≤1048576):fK (mkD none s t)=0:=by
  have hr:=G8 (s:=s) (t:=t) ⟨(fun x hx=>by cases hx),h⟩
  unfold fK
  rw [hr,if_pos (by decide)]
theorem yJ {ep:Int} (h0:0≤ep) (h1:ep≤2147483647) {e:Option (List UInt8)} {s t:List UInt8} (h:okD e s t):bi (mkD e s t) ep=(⟨mkD (some (epB ep)) s t⟩,0):=by
  obtain ⟨g1,g2,_⟩:=lr h0 h1
  have hl:=wv h0 h1
  have hn:okD none s t:=⟨fun x hx=>(by cases hx),h.2⟩
  have hrm:(if (bE (mkD e s t) epN).2=0 then (bE (mkD e s t) epN).1.files else mkD e s t)=mkD none s t:=by
    cases e with
    | none=>rw [zy hn,if_neg (by decide)]
    | some x=>rw [Bo h,if_pos rfl]
  unfold bi
  rw [g1,if_neg (fun h=>h rfl),hrm]
  simp only
  rw [show fJ (ep*2147483648)=epB ep from rfl,Gr hn (by omega),if_neg (fun h=>h rfl)]
  exact KL hn (by omega)
theorem wo {l:List ATxn} (h:logOk l) (k:Nat) (hk:k≤l.length) {z:Int} (hz:if 0 < k then (l.getD (k - 1) default).zxid=z else z=-1):keepL l z=l.take k:=by
  have h0:∀ j,j < l.length→0≤(l.getD j default).zxid:=fun j hj=>(fh (h.2 _ (bX l j hj))).1.1
  refine sy h hk (fun j hj=>?_) (fun hlt=>?_)
  · rw [if_pos (by omega)] at hz
    by_cases e:j=k - 1
    · subst e;omega
    · have:=gc h (show j < k - 1 by omega) (by omega)
      omega
  · by_cases hk0:0 < k
    · rw [if_pos hk0] at hz
      have:=gc h (show k - 1 < k by omega) hlt
      omega
    · rw [if_neg hk0] at hz
      have:=h0 k hlt
      omega
theorem EW {x:ATxn} {r:List ATxn} {v:ATree} (h:bB t00 (x::r)=some v):0 < x.zxid:=by
  rw [bB] at h
  split at h
  · rename_i he
    unfold ar at he
    split at he
    · rename_i hw;exact absurd he hw
    · rename_i hw
      have:=(dX (Classical.not_not.1 hw)).2.2.1
      exact this
  · cases h
theorem UpOk.takes:∀ (r:List ATxn) {s:AServer} {e:Option (List UInt8)},UpOk s e s.peer.log.length→logOk (s.peer.log++r)→(encs (s.peer.log++r)).length≤1048576→(∃ v,bB t00 (s.peer.log++r)=some v)→
    ∃ d,eF s r=(⟨s.up,d,⟨s.peer.id,s.peer.epoch,s.peer.log++r,s.peer.done⟩,s.tree,s.watches⟩,0)∧UpOk ⟨s.up,d,⟨s.peer.id,s.peer.epoch,s.peer.log++r,s.peer.done⟩,s.tree,s.watches⟩ e (s.peer.log++r).length
  | [],s,e,h,_,_,_=>⟨s.disk,by rw [List.append_nil];rfl,by rw [List.append_nil];exact h⟩
  | x :: r,s,e,h,ho,hl,hp=>by
    have hx:aO x=0:=ho.2 x (by simp)
    have hz:ay s.peer.log < x.zxid:=by
      by_cases h0:0 < s.peer.log.length
      · rw [dK h0]
        have:=gc ho (i:=s.peer.log.length - 1) (j:=s.peer.log.length) (by omega) (by simp)
        rw [List.getD_eq_getElem?_getD,List.getElem?_append_left (by omega),←List.getD_eq_getElem?_getD,List.getD_eq_getElem?_getD (i:=s.peer.log.length),List.getElem?_append_right (Nat.le_refl _),Nat.sub_self] at this
        exact this
      · have hn:s.peer.log=[]:=List.eq_nil_of_length_eq_zero (by omega)
        obtain ⟨v,hv⟩:=hp
        rw [hn,List.nil_append] at hv
        rw [hn,gR];exact EW hv
    have hl1:(encs s.peer.log).length+(cL x).1.length≤1048576:=by
      rw [xv,dL,List.length_append,List.length_append] at hl;omega
    have hp1:∃ v,bB t00 (s.peer.log++[x])=some v:=by
      obtain ⟨v,hv⟩:=hp
      have:=ie hv (s.peer.log.length+1)
      rwa [List.take_append,List.take_of_length_le (by omega),Nat.add_sub_cancel_left,List.take_succ_cons,List.take_zero] at this
    obtain ⟨d,t1,t2⟩:=h.take hx hz hl1 hp1 true
    rw [if_pos rfl] at t2
    have e1:s.peer.log++x::r=(s.peer.log++[x])++r:=by simp
    obtain ⟨d2,q1,q2⟩:=UpOk.takes r (s:=⟨s.up,d,⟨s.peer.id,s.peer.epoch,s.peer.log++[x],s.peer.done⟩,s.tree,s.watches⟩) (e:=e) (by simp only [List.length_append,List.length_singleton];exact t2) (by simp only;rw [←e1];exact ho) (by simp only;rw [←e1];exact hl) (by simp only;rw [←e1];exact hp)
    simp only at q1 q2
    rw [←e1] at q1 q2
    exact ⟨d2,by rw [eF,t1,if_pos rfl];exact q1,q2⟩
theorem UpOk.follow {s:AServer} {e:Option (List UInt8)} {a:Nat} (h:UpOk s e a) {l:List ATxn} (ho:logOk l) (hl:(encs l).length≤1048576) (hp:∃ v,bB t00 l=some v) {ep:Int} (h0:0≤ep) (h1:ep≤2147483647)
    (hm:l.take (bh l s.peer.log)=s.peer.log.take (bh l s.peer.log)) (hd:s.peer.done≤bh l s.peer.log) :
    ∃ d,aI s l ep=(⟨s.up,d,⟨s.peer.id,ep,l,s.peer.done⟩,s.tree,s.watches⟩,0)∧UpOk ⟨s.up,d,⟨s.peer.id,ep,l,s.peer.done⟩,s.tree,s.watches⟩ (some (epB ep)) l.length:=by
  obtain ⟨k1,k2⟩:=jP l s.peer.log
  have ke:=mT l s.peer.log
  have hd0:=h.d0
  unfold aI
  generalize bh l s.peer.log=k at k1 k2 ke hm hd ⊢
  have hkeep:keepD s.disk.files (fE l k)=(⟨mkD e (encs (s.peer.log.take k)) []⟩,0):=by
    rw [h.disk,Jy h.okD,eS,h.scan]
    simp only
    rw [wo h.log k k2]
    unfold fE
    split
    · exact (ke (k - 1) (by omega)).symm
    · rfl
  have hsm:(encs (s.peer.log.take k)).length≤1048576:=Nat.le_trans (iV _ _) h.small
  have hrem:=yJ (ep:=ep) h0 h1 (e:=e) (s:=encs (s.peer.log.take k)) (t:=[]) ⟨h.elen,by simpa using hsm⟩
  rw [if_neg (by omega),hkeep,if_neg (fun h=>h rfl),hrem,if_neg (fun h=>h rfl)]
  have hep:=wv h0 h1
  have hu:UpOk ⟨s.up,⟨mkD (some (epB ep)) (encs (s.peer.log.take k)) []⟩,⟨s.peer.id,ep,s.peer.log.take k,s.peer.done⟩,s.tree,s.watches⟩ (some (epB ep)) (s.peer.log.take k).length:=by
    refine ⟨h.up,?_,Nat.le_refl _,m9 h.log k,hsm,fun x hx=>by injection hx with hx;subst hx;omega,hd0,?_,?_,?_⟩
    · simp only;rw [List.take_length,List.drop_length,fF]
    · simp only;rw [List.length_take];omega
    · simp only;rw [List.take_take,Nat.min_eq_left (by omega)];exact h.tree
    · obtain ⟨v,hv⟩:=h.play;exact ie hv k
  have hj:s.peer.log.take k++l.drop k=l:=by rw [←hm,List.take_append_drop]
  obtain ⟨d,q1,q2⟩:=UpOk.takes (l.drop k) hu (by simp only;rw [hj];exact ho) (by simp only;rw [hj];exact hl) (by simp only;rw [hj];exact hp)
  simp only at q1 q2
  rw [hj] at q1 q2
  exact ⟨d,q1,q2⟩
structure AWorld where
  sv:List AServer
  cl:List AClient
  leader:Int
  fl:List Bool
  done:List ATxn
  deeds:Int
namespace AWorld
def s (w:AWorld) (i:Nat):AServer:=w.sv.getD i default
def c (w:AWorld) (i:Nat):AClient:=w.cl.getD i default
def f (w:AWorld) (i:Nat):Bool:=w.fl.getD i false
def setS (w:AWorld) (i:Nat) (s:AServer):AWorld:={ w with sv:=w.sv.set i s }
def setC (w:AWorld) (i:Nat) (c:AClient):AWorld:={ w with cl:=w.cl.set i c }
def setF (w:AWorld) (i:Nat) (b:Bool):AWorld:={ w with fl:=w.fl.set i b }
def resign (w:AWorld):AWorld:={ w with leader:=-1,fl:=[false,false,false] }
end AWorld
def dF:AWorld:=⟨(List.range 3).map fun (i:Nat)=>(cD (i:Int) []).1,(List.range 16).map fun (i:Nat)=>⟨(i:Int)+1,0,[]⟩,-1,[false,false,false],[],0⟩
def noR (e:Int):AReply:=⟨e,0,[],[],default,[]⟩
def tE (n:Int) (i:Nat):Bool:=decide ((n / 2 ^ i) % 2=1)
def dN (w:AWorld) (i:Nat) (keep:Int):AWorld×AReply:=
  if (w.s i).up=false then (w,noR 14) else
  if (bw (w.s i) keep).2≠0 then (w,noR (bw (w.s i) keep).2) else
  (if w.leader=i then ((w.setS i (bw (w.s i) keep).1).setF i false).resign else (w.setS i (bw (w.s i) keep).1).setF i false,noR 0)
def upW (w:AWorld) (i:Nat):AWorld×AReply:=
  if (w.s i).up=true then (w,noR 8) else
  if (cD i (w.s i).disk.files).2≠0 then (w,noR (cD i (w.s i).disk.files).2) else
  (w.setS i (cD i (w.s i).disk.files).1,noR 0)
def eA (w:AWorld) (ns:List ANote):AWorld:={ w with cl:=w.cl.map fun c=>⟨c.session,c.seen,dU c.session c.cache ns⟩ }
def bM (l:List ATxn) (ep:Int):List Nat→AWorld→List ANote→AWorld×List ANote×Int
  | [],w,ns=>(w,ns,0)
  | i::r,w,ns=>
    if (w.s i).up=false then bM l ep r w ns else
    if (aI (w.s i) l ep).2≠0 then (w,ns,(aI (w.s i) l ep).2) else
    if (aC (aI (w.s i) l ep).1 l.length).2.2≠0 then (w,ns,(aC (aI (w.s i) l ep).1 l.length).2.2) else
    bM l ep r ((w.setS i (aC (aI (w.s i) l ep).1 l.length).1).setF i true) (ns++(aC (aI (w.s i) l ep).1 l.length).2.1)
def bI (w:AWorld):List APeer:=(w.sv.filter fun s=>s.up).map AServer.peer
def dv (w:AWorld):AWorld×AReply:=
  if (cd (bI w)).2.2≠0 then (w,noR (cd (bI w)).2.2) else
  let b:=(bI w).getD (cd (bI w)).1.toNat default
  let r:=bM b.log (cd (bI w)).2.1 [0,1,2] w.resign []
  if r.2.2≠0 then (r.1,noR r.2.2) else
  (eA { r.1 with leader:=b.id } r.2.1,⟨0,ay b.log,[],[],default,r.2.1⟩)
def bW (x:ATxn) (lead lost slow:Int):List Nat→AWorld→List Nat→AWorld×List Nat×Int
  | [],w,hv=>(w,hv,0)
  | i::r,w,hv=>
    if w.f i=false then bW x lead lost slow r w hv else
    if ¬ lead=i∧tE lost i=true then bW x lead lost slow r (w.setF i false) hv else
    if (bo (w.s i) x (decide (lead=i) || !tE slow i)).2≠0 then (w,hv,(bo (w.s i) x (decide (lead=i) || !tE slow i)).2) else
    bW x lead lost slow r (w.setS i (bo (w.s i) x (decide (lead=i) || !tE slow i)).1) (if decide (lead=i) || !tE slow i then hv++[i] else hv)
def bq:List Nat→AWorld→List ANote→AWorld×List ANote×Int
  | [],w,ns=>(w,ns,0)
  | i::r,w,ns=>
    if (aC (w.s i) (w.s i).peer.log.length).2.2≠0 then (w,ns,(aC (w.s i) (w.s i).peer.log.length).2.2) else
    bq r (w.setS i (aC (w.s i) (w.s i).peer.log.length).1) (ns++(aC (w.s i) (w.s i).peer.log.length).2.1)
def jF (w:AWorld) (who:Nat) (x:ATxn) (hv:List Nat):AWorld×AReply:=
  let r:=bq hv w []
  if r.2.2≠0 then (r.1,noR r.2.2) else
  let u:=eA { r.1 with done:=r.1.done++[x] } r.2.1
  if (eW (u.c who) x.zxid).2≠0 then (u,noR (eW (u.c who) x.zxid).2) else
  (u.setC who (eW (u.c who) x.zxid).1,⟨0,x.zxid,x.path,[],(aP (u.s u.leader.toNat).tree x.path).1.stat,r.2.1⟩)
def mv (w:AWorld) (d:ADeed):ARequest:=⟨d.request.op,(w.c d.client.toNat).session,d.request.path,d.request.data,d.request.version,d.request.flags⟩
def da (w:AWorld) (d:ADeed):AWorld×AReply:=
  if d.client < 0∨16≤d.client then (w,noR 3) else
  if w.leader < 0 then (w,noR 14) else
  if (dG (w.s w.leader.toNat).peer).2≠0 then (w,noR (dG (w.s w.leader.toNat).peer).2) else
  let p:=cF (w.s w.leader.toNat).tree (dG (w.s w.leader.toNat).peer).1 (mv w d)
  if p.2≠0 then (w,noR p.2) else
  let r:=bW p.1 w.leader d.lost d.slow [0,1,2] w []
  if r.2.2≠0 then (r.1,noR r.2.2) else
  if r.2.1.length < 2 then (r.1.resign,⟨16,p.1.zxid,[],[],default,[]⟩) else
  jF r.1 d.client.toNat p.1 r.2.1
def gV (w:AWorld) (d:ADeed):AWorld×AReply:=
  if d.client < 0∨16≤d.client∨d.server < 0∨3≤d.server then (w,noR 3) else
  let i:=d.server.toNat
  let k:=d.client.toNat
  if (w.s i).up=false then (w,noR 14) else
  if (eW (w.c k) (w.s i).tree.zxid).2≠0 then (w,noR (eW (w.c k) (w.s i).tree.zxid).2) else
  let c:=(eW (w.c k) (w.s i).tree.zxid).1
  let n:=aP (w.s i).tree d.request.path
  if d.watch=true then
    let a:=ka (w.s i).watches ⟨c.session,1,d.request.path⟩
    if a.2≠0 then (w,noR a.2) else
    ((w.setS i { w.s i with watches:=a.1 }).setC k ⟨c.session,c.seen,iU c.cache ⟨d.request.path,n.1.data,decide (n.2=0)⟩⟩,
      ⟨n.2,(w.s i).tree.zxid,n.1.path,n.1.data,n.1.stat,[]⟩)
  else (w.setC k c,⟨n.2,(w.s i).tree.zxid,n.1.path,n.1.data,n.1.stat,[]⟩)
def mc (w:AWorld) (d:ADeed):AWorld×AReply:=
  if d.kind=1 then da w d else if d.kind=2 then gV w d else if d.kind=5 then dv w else
  if d.kind=3∨d.kind=4 then
    if d.server < 0∨3≤d.server then (w,noR 3) else if d.kind=4 then upW w d.server.toNat else dN w d.server.toNat d.keep
  else (w,noR 4)
def doW (w:AWorld) (d:ADeed):AWorld×AReply:=
  if 300≤w.deeds then (w,noR 6) else mc { w with deeds:=w.deeds+1 } d
structure Gh where
  D:List ATxn
  a:Nat
  E:Int
def Two (P:Nat→Prop):Prop:=∃ i j,i < 3∧j < 3∧i≠j∧P i∧P j
theorem Two.mono {P Q:Nat→Prop} (h:Two P) (hq:∀ i,i < 3→P i→Q i):Two Q:=by
  obtain ⟨i,j,h1,h2,h3,h4,h5⟩:=h
  exact ⟨i,j,h1,h2,h3,hq i h1 h4,hq j h2 h5⟩
theorem Two.meet {P Q:Nat→Prop} (h:Two P) (h2:Two Q):∃ i,i < 3∧P i∧Q i:=by
  obtain ⟨i,j,a1,a2,a3,a4,a5⟩:=h
  obtain ⟨k,m,b1,b2,b3,b4,b5⟩:=h2
  by_cases e1:i=k
  · subst e1;exact ⟨i,a1,a4,b4⟩
  by_cases e2:i=m
  · subst e2;exact ⟨i,a1,a4,b5⟩
  by_cases e3:j=k
  · subst e3;exact ⟨j,a2,a5,b4⟩
  have e4:j=m:=by omega
  subst e4;exact ⟨j,a2,a5,b5⟩
def Old (ld es:Int) (L:List ATxn) (n:Nat) (z:Int):Prop:=0≤z∧z / 2147483648≤es∧z % 2147483648≤n∧(0≤ld→z / 2147483648 < es∨z≤ay L)
structure Pr (g:Nat→Gh) (ld es:Int) (K:List ATxn) (n:Nat):Prop where
  log:∀ j,j < 3→logOk (g j).D
  al:∀ j,j < 3→(g j).a≤(g j).D.length
  pos:∀ j,j < 3→∀ x,x∈(g j).D→0 < x.zxid
  old:∀ j,j < 3→∀ x,x∈(g j).D→Old ld es (g ld.toNat).D n x.zxid
  es0:0≤es
  esn:es≤n
  E0:∀ j,j < 3→0≤(g j).E∧(g j).E≤n
  q:Two fun j=>es≤(g j).E
  one:∀ i j,i < 3→j < 3→∀ x y,x∈(g i).D→y∈(g j).D→x.zxid=y.zxid→x=y
  k1:Two fun j=>K <+: (g j).D∧K.length≤(g j).a
  k2:∀ j,j < 3→ay K≤ay (g j).D→K <+: (g j).D
  k3:0≤ld→K <+: (g ld.toNat).D
  ld0:0≤ld→ld < 3∧(g ld.toNat).E=es
def upd (g:Nat→Gh) (j:Nat) (x:Gh):Nat→Gh:=fun i=>if i=j then x else g i
theorem cX (g:Nat→Gh) (j:Nat) (x:Gh):upd g j x j=x:=by unfold upd;rw [if_pos rfl]
theorem bO (g:Nat→Gh) {j i:Nat} (x:Gh) (h:i≠j):upd g j x i=g i:=by unfold upd;rw [if_neg h]
theorem fe {l:List ATxn} (h:l≠[]):∃ x,x∈l∧x.zxid=ay l:=by
  have hp:=List.length_pos_iff.2 h
  exact ⟨_,bX l (l.length - 1) (by omega),(dK hp).symm⟩
theorem oo {l:List ATxn} (h:logOk l) {x:ATxn} (hx:x∈l):x.zxid≤ay l:=by
  obtain ⟨k,hk,rfl⟩:=List.getElem_of_mem hx
  rw [dK (by omega)]
  have e:l[k]=l.getD k default:=by rw [List.getD_eq_getElem?_getD,List.getElem?_eq_getElem hk];rfl
  rw [e]
  by_cases h2:k=l.length - 1
  · subst h2;exact Int.le_refl _
  · exact Int.le_of_lt (gc h (by omega) (by omega))
theorem ex {l:List ATxn} (h:∀ x,x∈l→0 < x.zxid):0≤ay l:=by
  by_cases e:l=[]
  · subst e;exact Int.le_refl _
  · obtain ⟨x,h1,h2⟩:=fe e
    have:=h x h1;omega
theorem yO {l:List ATxn} (h:logOk l) (hp:∀ x,x∈l→0 < x.zxid) (k:Nat):ay (l.take k)≤ay l:=by
  by_cases e:l.take k=[]
  · rw [e];exact ex hp
  · obtain ⟨x,h1,h2⟩:=fe e
    rw [←h2];exact oo h (List.mem_of_mem_take h1)
theorem EV {l K:List ATxn} (h:logOk l) (hp:∀ x,x∈l→0 < x.zxid) (hK:K <+: l) {k:Nat} (hz:ay K≤ay (l.take k)):K <+: l.take k:=by
  have e:=List.prefix_iff_eq_take.1 hK
  have hl:=hK.length_le
  refine List.prefix_iff_eq_take.2 ?_
  by_cases hk:K.length≤k
  · rw [List.take_take,Nat.min_eq_left hk];exact e
  · exfalso
    have hK0:0 < K.length:=by omega
    have z1:ay K=(l.getD (K.length - 1) default).zxid:=by
      obtain ⟨t,ht⟩:=hK
      rw [←ht,dK hK0,List.getD_eq_getElem?_getD,List.getD_eq_getElem?_getD,List.getElem?_append_left (by omega)]
    by_cases hk0:0 < k
    · have hlen:(l.take k).length=k:=by rw [List.length_take];omega
      have z2:ay (l.take k)=(l.getD (k - 1) default).zxid:=by
        rw [dK (by omega),hlen,List.getD_eq_getElem?_getD,List.getElem?_take,if_pos (by omega),←List.getD_eq_getElem?_getD]
      have:=gc h (i:=k - 1) (j:=K.length - 1) (by omega) (by omega)
      omega
    · have hk':k=0:=by omega
      subst hk'
      rw [List.take_zero,gR,z1] at hz
      have:=hp _ (bX l (K.length - 1) (by omega))
      omega
theorem Old.gone {ld es:Int} {L:List ATxn} {n:Nat} {z:Int} (h:Old ld es L n z) (L2:List ATxn):Old (-1) es L2 n z:=⟨h.1,h.2.1,h.2.2.1,fun h=>absurd h (by decide)⟩
theorem Old.up {ld es:Int} {L:List ATxn} {n m:Nat} {z:Int} (h:Old ld es L n z) (hm:n≤m):Old ld es L m z:=⟨h.1,h.2.1,by have:=h.2.2.1;omega,h.2.2.2⟩
theorem Old.lead {ld es:Int} {L:List ATxn} {n:Nat} {z:Int} (h:Old ld es L n z) {b ep:Int} (he:es < ep) (L2:List ATxn):Old b ep L2 n z:=⟨h.1,by have:=h.2.1;omega,h.2.2.1,fun _=>.inl (by have:=h.2.1;omega)⟩
theorem Old.more {ld es:Int} {L:List ATxn} {n:Nat} {z:Int} (h:Old ld es L n z) {L2:List ATxn} (hl:ay L≤ay L2):Old ld es L2 n z:=⟨h.1,h.2.1,h.2.2.1,fun h0=>(h.2.2.2 h0).imp id fun h1=>by omega⟩
theorem Pr.mono {g:Nat→Gh} {ld es:Int} {K:List ATxn} {n m:Nat} (h:Pr g ld es K n) (hm:n≤m):Pr g ld es K m:=
  { h with
    old:=fun j hj x hx=>(h.old j hj x hx).up hm
    esn:=by have:=h.esn;omega
    E0:=fun j hj=>⟨(h.E0 j hj).1,by have:=(h.E0 j hj).2;omega⟩ }
theorem Pr.resign {g:Nat→Gh} {ld es:Int} {K:List ATxn} {n:Nat} (h:Pr g ld es K n):Pr g (-1) es K n:=
  { h with
    old:=fun j hj x hx=>(h.old j hj x hx).gone _
    k3:=fun h=>absurd h (by decide)
    ld0:=fun h=>absurd h (by decide) }
theorem Pr.cut {g:Nat→Gh} {ld es:Int} {K:List ATxn} {n:Nat} (h:Pr g ld es K n) {j:Nat} (hj:j < 3) (hd:0≤ld→ld.toNat≠j) {k:Nat} (h1:(g j).a≤k) (h2:k≤(g j).D.length):Pr (upd g j ⟨(g j).D.take k,k,(g j).E⟩) ld es K n:=by
  have hm:∀ i,i < 3→∀ x,x∈(upd g j ⟨(g j).D.take k,k,(g j).E⟩ i).D→x∈(g i).D:=fun i hi x hx=>by
    by_cases e:i=j
    · subst e;rw [cX] at hx;exact List.mem_of_mem_take hx
    · rwa [bO _ _ e] at hx
  have hE:∀ i,(upd g j ⟨(g j).D.take k,k,(g j).E⟩ i).E=(g i).E:=fun i=>by
    by_cases e:i=j
    · subst e;rw [cX]
    · rw [bO _ _ e]
  have hO:∀ {z:Int},Old ld es (g ld.toNat).D n z→Old ld es (upd g j ⟨(g j).D.take k,k,(g j).E⟩ ld.toNat).D n z:=fun {z} hz=>by
    by_cases e:0≤ld
    · rw [bO _ _ (hd e)];exact hz
    · exact ⟨hz.1,hz.2.1,hz.2.2.1,fun h0=>absurd h0 e⟩
  refine ⟨fun i hi=>?_,fun i hi=>?_,fun i hi x hx=>h.pos i hi x (hm i hi x hx),fun i hi x hx=>hO (h.old i hi x (hm i hi x hx)),h.es0,h.esn,fun i hi=>by rw [hE];exact h.E0 i hi,h.q.mono fun i _ hi=>by rw [hE];exact hi,
    fun i i2 hi hi2 x y hx hy=>h.one i i2 hi hi2 x y (hm i hi x hx) (hm i2 hi2 y hy),h.k1.mono fun i hi hk=>?_,fun i hi hz=>?_,fun h0=>by rw [bO _ _ (hd h0)];exact h.k3 h0,fun h0=>by rw [hE];exact h.ld0 h0⟩
  · by_cases e:i=j
    · subst e;rw [cX];exact m9 (h.log i hi) k
    · rw [bO _ _ e];exact h.log i hi
  · by_cases e:i=j
    · subst e;rw [cX];simp only;rw [List.length_take];omega
    · rw [bO _ _ e];exact h.al i hi
  · by_cases e:i=j
    · subst e;rw [cX]
      refine ⟨?_,by simp only;omega⟩
      have e2:=List.prefix_iff_eq_take.1 hk.1
      refine List.prefix_iff_eq_take.2 ?_
      simp only
      rw [List.take_take,Nat.min_eq_left (by omega)];exact e2
    · rw [bO _ _ e];exact hk
  · by_cases e:i=j
    · subst e;rw [cX] at hz ⊢
      exact EV (h.log i hi) (h.pos i hi) (h.k2 i hi (Int.le_trans hz (yO (h.log i hi) (h.pos i hi) k))) hz
    · rw [bO _ _ e] at hz ⊢;exact h.k2 i hi hz
theorem Pr.follow {g:Nat→Gh} {es:Int} {K:List ATxn} {n:Nat} (h:Pr g (-1) es K n) {j b:Nat} (hj:j < 3) (hb:b < 3) (hK:K <+: (g b).D) {ep:Int} (h1:es < ep) (h2:ep≤n):Pr (upd g j ⟨(g b).D,(g b).D.length,ep⟩) (-1) es K n:=by
  have hm:∀ i,i < 3→∃ i2,i2 < 3∧(upd g j ⟨(g b).D,(g b).D.length,ep⟩ i).D=(g i2).D:=fun i hi=>by
    by_cases e:i=j
    · subst e;rw [cX];exact ⟨b,hb,rfl⟩
    · rw [bO _ _ e];exact ⟨i,hi,rfl⟩
  refine ⟨fun i hi=>?_,fun i hi=>?_,fun i hi x hx=>?_,fun i hi x hx=>?_,h.es0,h.esn,fun i hi=>?_,h.q.mono fun i _ hi=>?_,fun i i2 hi hi2 x y hx hy=>?_,h.k1.mono fun i hi hk=>?_,fun i hi hz=>?_,fun h0=>absurd h0 (by decide),fun h0=>absurd h0 (by decide)⟩
  · obtain ⟨m,q1,q2⟩:=hm i hi;rw [q2];exact h.log m q1
  · by_cases e:i=j
    · subst e;rw [cX];exact Nat.le_refl _
    · rw [bO _ _ e];exact h.al i hi
  · obtain ⟨m,q1,q2⟩:=hm i hi;rw [q2] at hx;exact h.pos m q1 x hx
  · obtain ⟨m,q1,q2⟩:=hm i hi;rw [q2] at hx;exact (h.old m q1 x hx).gone _
  · by_cases e:i=j
    · subst e;rw [cX];have:=h.es0;exact ⟨by simp only;omega,h2⟩
    · rw [bO _ _ e];exact h.E0 i hi
  · by_cases e:i=j
    · subst e;rw [cX];exact Int.le_of_lt h1
    · rw [bO _ _ e];exact hi
  · obtain ⟨m,q1,q2⟩:=hm i hi;obtain ⟨m2,q3,q4⟩:=hm i2 hi2
    rw [q2] at hx;rw [q4] at hy;exact h.one m m2 q1 q3 x y hx hy
  · by_cases e:i=j
    · subst e;rw [cX];exact ⟨hK,hK.length_le⟩
    · rw [bO _ _ e];exact hk
  · by_cases e:i=j
    · subst e;rw [cX];exact hK
    · rw [bO _ _ e] at hz ⊢;exact h.k2 i hi hz
theorem Pr.lead {g:Nat→Gh} {es:Int} {K:List ATxn} {n:Nat} (h:Pr g (-1) es K n) {ep:Int} (h1:es < ep) (h2:ep≤n) (hq:Two fun j=>ep≤(g j).E) {b:Nat} (hb:b < 3) (hE:(g b).E=ep) (hK:K <+: (g b).D):Pr g b ep K n:=
  { h with
    old:=fun j hj x hx=>(h.old j hj x hx).lead h1 _
    es0:=by have:=h.es0;omega
    esn:=h2
    q:=hq
    k3:=fun _=>hK
    ld0:=fun _=>⟨by omega,hE⟩ }
theorem Pr.best {g:Nat→Gh} {ld es:Int} {K:List ATxn} {n:Nat} (h:Pr g ld es K n) {U:Nat→Prop} (hU:Two U) {b:Nat} (hb:b < 3) (hm:∀ j,j < 3→U j→ay (g j).D≤ay (g b).D):K <+: (g b).D:=by
  obtain ⟨i,h1,h2,h3⟩:=hU.meet h.k1
  refine h.k2 b hb (Int.le_trans ?_ (hm i h1 h2))
  by_cases e:K=[]
  · subst e;exact ex (h.pos i h1)
  · obtain ⟨x,q1,q2⟩:=fe e
    rw [←q2];exact oo (h.log i h1) (h3.1.subset q1)
theorem Pr.epoch {g:Nat→Gh} {ld es:Int} {K:List ATxn} {n:Nat} (h:Pr g ld es K n) {U:Nat→Prop} (hU:Two U) {ep:Int} (hm:∀ j,j < 3→U j→(g j).E < ep):es < ep:=by
  obtain ⟨i,h1,h2,h3⟩:=hU.meet h.q
  have:=hm i h1 h2
  omega
theorem Pr.new {g:Nat→Gh} {ld es:Int} {K:List ATxn} {n:Nat} (h:Pr g ld es K n) (h0:0≤ld) {z:Int} (h1:z / 2147483648=es) (h2:ay (g ld.toNat).D < z) {j:Nat} (hj:j < 3):(∀ y,y∈(g j).D→y.zxid < z)∧ay (g j).D < z:=by
  have ha:∀ y,y∈(g j).D→y.zxid < z:=fun y hy=>by
    rcases (h.old j hj y hy).2.2.2 h0 with h3 | h3<;>omega
  refine ⟨ha,?_⟩
  by_cases e:(g j).D=[]
  · have:=ex (h.pos ld.toNat (by have:=h.ld0 h0;omega))
    rw [e,gR];omega
  · obtain ⟨x,q1,q2⟩:=fe e
    rw [←q2];exact ha x q1
theorem Pr.took {g g':Nat→Gh} {ld es:Int} {K:List ATxn} {n:Nat} (h:Pr g ld es K n) (h0:0≤ld) {x:ATxn} (hx:aO x=0) (h1:x.zxid / 2147483648=es) (h2:ay (g ld.toNat).D < x.zxid) (h3:x.zxid % 2147483648≤n)
    (hT:∀ j,j < 3→((g j).D=(g ld.toNat).D∧(g' j).D=(g ld.toNat).D++[x]∧(g j).a≤(g' j).a∧(g' j).a≤(g' j).D.length)∨((g' j).D=(g j).D∧(g' j).a=(g j).a)) (hE:∀ j,j < 3→(g' j).E=(g j).E):Pr g' (-1) es K n:=by
  have hld:=h.ld0 h0
  have hl3:ld.toNat < 3:=by omega
  have hz0:=ex (h.pos ld.toNat hl3)
  have hm:∀ j,j < 3→∀ y,y∈(g' j).D→y=x∨y∈(g j).D:=fun j hj y hy=>by
    rcases hT j hj with ⟨a1,a2,_⟩ | ⟨a1,_⟩
    · rw [a2] at hy;rw [a1]
      rcases List.mem_append.1 hy with q | q
      · exact .inr q
      · exact .inl (List.mem_singleton.1 q)
    · rw [a1] at hy;exact .inr hy
  refine ⟨fun j hj=>?_,fun j hj=>?_,fun j hj y hy=>?_,fun j hj y hy=>?_,h.es0,h.esn,fun j hj=>by rw [hE j hj];exact h.E0 j hj,h.q.mono fun j hj hi=>by rw [hE j hj];exact hi,fun i j hi hj y v hy hv e=>?_,h.k1.mono fun j hj hk=>?_,fun j hj hz=>?_,fun h0=>absurd h0 (by decide),fun h0=>absurd h0 (by decide)⟩
  · rcases hT j hj with ⟨a1,a2,_⟩ | ⟨a1,_⟩
    · rw [a2];exact jX (h.log _ hl3) (fun _=>h2) hx
    · rw [a1];exact h.log j hj
  · rcases hT j hj with ⟨a1,a2,a3,a4⟩ | ⟨a1,a2⟩
    · exact a4
    · rw [a1,a2];exact h.al j hj
  · rcases hm j hj y hy with rfl | q
    · omega
    · exact h.pos j hj y q
  · rcases hm j hj y hy with rfl | q
    · exact ⟨by omega,by omega,h3,fun h=>absurd h (by decide)⟩
    · exact (h.old j hj y q).gone _
  · rcases hm i hi y hy with rfl | q<;>rcases hm j hj v hv with rfl | q2
    · rfl
    · have:=(h.new h0 h1 h2 hj).1 v q2;omega
    · have:=(h.new h0 h1 h2 hi).1 y q;omega
    · exact h.one i j hi hj y v q q2 e
  · rcases hT j hj with ⟨a1,a2,a3,a4⟩ | ⟨a1,a2⟩
    · rw [a2];rw [a1] at hk;exact ⟨hk.1.trans (List.prefix_append _ _),by omega⟩
    · rw [a1,a2];exact hk
  · rcases hT j hj with ⟨a1,a2,a3,a4⟩ | ⟨a1,a2⟩
    · rw [a2];exact (h.k3 h0).trans (List.prefix_append _ _)
    · rw [a1] at hz ⊢;exact h.k2 j hj hz
theorem Pr.ackd {g g':Nat→Gh} {ld es:Int} {K:List ATxn} {n:Nat} (h:Pr g ld es K n) (h0:0≤ld) {x:ATxn} (hx:aO x=0) (h1:x.zxid / 2147483648=es) (h2:ay (g ld.toNat).D < x.zxid) (h3:x.zxid % 2147483648≤n)
    (hT:∀ j,j < 3→((g j).D=(g ld.toNat).D∧(g' j).D=(g ld.toNat).D++[x]∧(g j).a≤(g' j).a∧(g' j).a≤(g' j).D.length)∨((g' j).D=(g j).D∧(g' j).a=(g j).a)) (hE:∀ j,j < 3→(g' j).E=(g j).E)
    (hl:(g' ld.toNat).D=(g ld.toNat).D++[x]) (hs:Two fun j=>(g' j).D=(g ld.toNat).D++[x]∧(g' j).a=(g' j).D.length):Pr g' ld es ((g ld.toNat).D++[x]) n:=by
  have hld:=h.ld0 h0
  have hl3:ld.toNat < 3:=by omega
  have hz0:=ex (h.pos ld.toNat hl3)
  have hq:=h.took h0 hx h1 h2 h3 hT hE
  have hj:∀ j,j < 3→(g' j).D=(g ld.toNat).D++[x]∨(g' j).D=(g j).D:=fun j hj=>(hT j hj).imp (fun a=>a.2.1) (fun a=>a.1)
  refine { hq with old:=fun j h4 y hy=>?_,k1:=hs.mono fun j _ hi=>⟨by rw [hi.1];exact List.prefix_refl _,by rw [hi.2,hi.1];exact Nat.le_refl _⟩,k2:=fun j h4 hz=>?_,k3:=fun _=>by rw [hl];exact List.prefix_refl _,ld0:=fun _=>⟨hld.1,by rw [hE _ hl3];exact hld.2⟩ }
  · have ho:=hq.old j h4 y hy
    refine ⟨ho.1,ho.2.1,ho.2.2.1,fun _=>.inr ?_⟩
    rw [hl,fN]
    rcases hj j h4 with e | e
    · rw [e] at hy
      have:=oo (jX (h.log _ hl3) (fun _=>h2) hx) hy
      rwa [fN] at this
    · rw [e] at hy
      exact Int.le_of_lt ((h.new h0 h1 h2 h4).1 y hy)
  · rcases hj j h4 with e | e
    · rw [e];exact List.prefix_refl _
    · rw [e,fN] at hz
      have:=(h.new h0 h1 h2 h4).2
      omega
theorem Pr.start:Pr (fun _=>⟨[],0,0⟩) (-1) 0 [] 0:=by
  refine ⟨fun _ _=>lB,fun _ _=>Nat.le_refl _,fun _ _ _ h=>(by cases h),fun _ _ _ h=>(by cases h),Int.le_refl _,Int.le_refl _,fun _ _=>⟨Int.le_refl _,Int.le_refl _⟩,⟨0,1,by decide,by decide,by decide,Int.le_refl _,Int.le_refl _⟩,fun _ _ _ _ _ _ h=>(by cases h),⟨0,1,by decide,by decide,by decide,⟨List.prefix_refl _,Nat.le_refl _⟩,⟨List.prefix_refl _,Nat.le_refl _⟩⟩,fun _ _ _=>List.prefix_refl _,fun _=>List.prefix_refl _,fun h=>absurd h (by decide)⟩
theorem BS {p:APeer} {es:Int} {n:Nat} (hn:n < 1000000) (h0:0≤es) (h1:es≤n) (hE:p.epoch=es) (hz0:0≤ay p.log) (hz1:ay p.log / 2147483648≤es) (hz2:ay p.log % 2147483648≤n) :
    (dG p).2=0∧(dG p).1 / 2147483648=es∧(dG p).1 % 2147483648≤n+1∧ay p.log < (dG p).1:=by
  have hg:bV (ay p.log):=by unfold bV;omega
  have he:epZ (ay p.log)=ay p.log / 2147483648:=by unfold epZ;rw [if_pos hg]
  have hmk:mkZ es 0=(es*2147483648,0):=(lr h0 (by omega)).1
  have hg2:bV (es*2147483648):=(lr h0 (by omega)).2.1
  unfold dG
  rw [he,hE,hmk]
  by_cases hlt:ay p.log / 2147483648 < es
  · rw [if_pos hlt,if_neg (fun h=>h rfl)]
    unfold mo
    rw [if_pos hg2,if_neg (by simp only;omega)]
    exact ⟨rfl,by simp only;omega,by simp only;omega,by simp only;omega⟩
  · rw [if_neg hlt]
    unfold mo
    rw [if_pos hg,if_neg (by omega)]
    exact ⟨rfl,by simp only;omega,by simp only;omega,by simp only;omega⟩
theorem DR:recoverD []=([],⟨mkD none [] []⟩,0):=by decide +kernel
theorem mb:∀ {l:List ATxn} {t v:ATree},aJ t=true→bB t l=some v→aJ v=true
  | [],t,v,hg,h=>by injection h with h;subst h;exact hg
  | x::r,t,v,hg,h=>by
    rw [bB] at h
    split at h
    · rename_i he;exact mb (rL he) h
    · cases h
theorem tH:∀ {l:List ATxn} {t v:ATree},bB t l=some v→v.zxid=if l=[] then t.zxid else ay l
  | [],t,v,h=>by injection h with h;subst h;rfl
  | x :: r,t,v,h=>by
    rw [bB] at h
    split at h
    · rename_i he
      have h2:=tH h
      have h3:(ar t x).1.zxid=x.zxid:=by
        have h0:cV t x=0:=by
          apply Classical.byContradiction;intro hw
          rw [oC hw] at he;exact hw he
        have hb:(dn t x).1.nodes.any iy=false:=by
          apply Classical.byContradiction;intro hb
          rw [eX h0 (by simpa using hb)] at he;cases he
        rw [gW h0 hb]
        unfold dn
        repeat' split
        all_goals rfl
      rw [if_neg (List.cons_ne_nil x r),h2]
      by_cases e:r=[]
      · subst e;rw [if_pos rfl,h3];rfl
      · rw [if_neg e,dK (List.length_pos_iff.2 e),dK (by simp)]
        have:=List.length_pos_iff.2 e
        rw [List.length_cons,show r.length+1 - 1=(r.length - 1)+1 from by omega,List.getD_cons_succ]
    · cases h
def Jz (e:Option (List UInt8)) (E:Int):Prop:=(e=none∧E=0)∨(e=some (epB E)∧0≤E∧E≤2147483647)
theorem Jz.read {e:Option (List UInt8)} {E:Int} (h:Jz e E) {s t:List UInt8} (hl:s.length+t.length≤1048576):fK (mkD e s t)=E:=by
  rcases h with ⟨rfl,rfl⟩ | ⟨rfl,h0,h1⟩
  · exact Ax hl
  · exact H6 h0 h1 hl
def SvUp (s:AServer) (g:Gh):Prop:=∃ e,Jz e g.E∧UpOk s e g.a∧s.peer.log=g.D∧s.peer.epoch=g.E
def Lq (s:AServer) (g:Gh):Prop:=∃ e,Jz e g.E∧DownOk s e g.D∧g.a=g.D.length
def ia (s:AServer) (g:Gh) (j:Nat):Prop:=s.peer.id=j∧(s.up=true→SvUp s g)∧(s.up=false→Lq s g)
theorem UpOk.posZ {s:AServer} {e:Option (List UInt8)} {a:Nat} (h:UpOk s e a):0≤s.tree.zxid∧s.tree.zxid≤ay s.peer.log∧(s.tree.zxid=0∨∃ x,x∈s.peer.log∧x.zxid=s.tree.zxid):=by
  have hz:=tH h.tree
  have h0:∀ x,x∈s.peer.log→0≤x.zxid:=fun x hx=>(fh (h.log.2 x hx)).1.1
  have hl0:0≤ay s.peer.log:=by
    by_cases e:s.peer.log=[]
    · rw [e];exact Int.le_refl _
    · obtain ⟨x,q1,q2⟩:=fe e
      have:=h0 x q1;omega
  by_cases e:s.peer.log.take s.peer.done.toNat=[]
  · rw [if_pos e] at hz
    have:t00.zxid=0:=by decide
    rw [hz,this];exact ⟨Int.le_refl _,hl0,.inl rfl⟩
  · rw [if_neg e] at hz
    obtain ⟨x,q1,q2⟩:=fe e
    have hx:=List.mem_of_mem_take q1
    rw [hz,←q2]
    exact ⟨h0 x hx,oo h.log hx,.inr ⟨x,hx,rfl⟩⟩
theorem IB {s:AServer} {g:Gh} {j:Nat} (h:ia s g j) (hu:s.up=true) {keep:Int} (hc:(bw s keep).2=0):∃ k,g.a≤k∧k≤g.D.length∧ia (bw s keep).1 ⟨g.D.take k,k,g.E⟩ j∧(bw s keep).1.up=false:=by
  obtain ⟨hid,h1,_⟩:=h
  obtain ⟨e,he,hk,hl,_⟩:=h1 hu
  have h0:0≤keep:=by
    apply Classical.byContradiction;intro hn
    have hcd:fT s.disk.files keep=(default,3):=by unfold fT;rw [if_pos (.inr (by omega))]
    unfold bw at hc
    rw [hcd,if_neg (by decide)] at hc;cases hc
  obtain ⟨k,k1,k2,k3,k4,k5⟩:=hk.crash h0
  rw [hl] at k2 k4
  refine ⟨k,k1,k2,⟨by rw [k5,hid],fun hf=>(by rw [k4.up] at hf;cases hf),fun _=>⟨e,he,k4,by show k=(g.D.take k).length;rw [List.length_take];omega⟩⟩,k4.up⟩
theorem By {s:AServer} {g:Gh} {j:Nat} (h:ia s g j) (hu:s.up=false) (hj:j < 3):(cD j s.disk.files).2=0∧ia (cD j s.disk.files).1 g j∧(cD j s.disk.files).1.up=true∧(cD j s.disk.files).1.peer.done=0∧(cD j s.disk.files).1.watches=[]:=by
  obtain ⟨hid,_,h1⟩:=h
  obtain ⟨e,he,hk,ha⟩:=h1 hu
  obtain ⟨c,c1,c2,c3⟩:=hk.disk
  have hr:=hk.recovers
  have hep:fK s.disk.files=g.E:=by rw [c1];exact he.read (by simpa using c2)
  have hb:cD j s.disk.files=(⟨true,⟨mkD e (encs g.D) []⟩,⟨j,g.E,g.D,0⟩,t00,[]⟩,0):=by
    unfold cD
    rw [if_neg (by omega),hr.1,if_neg (fun h=>h rfl),hep]
  rw [hb]
  refine ⟨rfl,⟨rfl,fun _=>⟨e,he,?_,rfl,rfl⟩,fun hf=>(by cases hf)⟩,rfl,rfl,rfl⟩
  rw [ha];exact hk.boot _ _
theorem J5 {s:AServer} {g:Gh} {j:Nat} (h:ia s g j) (hu:s.up=true) {x:ATxn} (hx:aO x=0) (hz:ay g.D < x.zxid) (hl:(encs g.D).length+(cL x).1.length≤1048576) (hp:∃ v,bB t00 (g.D++[x])=some v) (safe:Bool) :
    (bo s x safe).2=0∧ia (bo s x safe).1 ⟨g.D++[x],if safe then g.D.length+1 else g.a,g.E⟩ j∧(bo s x safe).1.up=true∧(bo s x safe).1.peer.done=s.peer.done∧(bo s x safe).1.watches=s.watches:=by
  obtain ⟨hid,h1,_⟩:=h
  obtain ⟨e,he,hk,hlg,hep⟩:=h1 hu
  rw [←hlg] at hz hl hp
  obtain ⟨d,t1,t2⟩:=hk.take hx hz hl hp safe
  rw [t1]
  refine ⟨rfl,⟨hid,fun _=>⟨e,he,?_,?_,hep⟩,fun hf=>?_⟩,hu,rfl,rfl⟩
  · rw [hlg] at t2;rw [hlg];exact t2
  · simp only;rw [hlg]
  · change s.up=false at hf;rw [hu] at hf;cases hf
theorem uM {s:AServer} {g:Gh} {j:Nat} (h:ia s g j) (hu:s.up=true) {n:Int} (hn1:s.peer.done≤n) (hn2:n≤g.D.length) :
    (aC s n).2.2=0∧ia (aC s n).1 g j∧(aC s n).1.up=true∧(aC s n).1.peer.done=n:=by
  obtain ⟨hid,h1,_⟩:=h
  obtain ⟨e,he,hk,hlg,hep⟩:=h1 hu
  rw [←hlg] at hn2
  obtain ⟨t,w,ns,t1,t2⟩:=hk.commit hn1 hn2
  rw [t1]
  refine ⟨rfl,⟨hid,fun _=>⟨e,he,t2,hlg,hep⟩,fun hf=>?_⟩,hu,rfl⟩
  change s.up=false at hf;rw [hu] at hf;cases hf
theorem Dt {s:AServer} {g:Gh} {j:Nat} (h:ia s g j) (hu:s.up=true) {l:List ATxn} (ho:logOk l) (hl:(encs l).length≤1048576) (hp:∃ v,bB t00 l=some v) (hone:∀ x y,x∈l→y∈g.D→x.zxid=y.zxid→x=y) {ep:Int} (h0:0≤ep) (h1:ep≤2147483647) :
    ((aI s l ep).2=0→ia (aI s l ep).1 ⟨l,l.length,ep⟩ j∧(aI s l ep).1.up=true∧(aI s l ep).1.peer.done=s.peer.done∧s.peer.done≤l.length∧(aI s l ep).1.watches=s.watches)∧(s.peer.done=0→(aI s l ep).2=0):=by
  obtain ⟨hid,hh,_⟩:=h
  obtain ⟨e,he,hk,hlg,hep⟩:=hh hu
  have hle:=jP l s.peer.log
  by_cases hd:s.peer.done≤bh l s.peer.log
  · have hm:l.take (bh l s.peer.log)=s.peer.log.take (bh l s.peer.log):=by
      apply List.ext_getElem
      · rw [List.length_take,List.length_take];omega
      · intro i h2 h3
        rw [List.length_take] at h2 h3
        rw [List.getElem_take,List.getElem_take]
        have hi:=mT l s.peer.log i (by omega)
        rw [List.getD_eq_getElem?_getD,List.getElem?_eq_getElem (by omega),List.getD_eq_getElem?_getD,List.getElem?_eq_getElem (by omega)] at hi
        exact hone _ _ (List.getElem_mem _) (by rw [←hlg];exact List.getElem_mem _) hi
    obtain ⟨d,t1,t2⟩:=hk.follow ho hl hp h0 h1 hm hd
    rw [t1]
    refine ⟨fun _=>⟨⟨hid,fun _=>⟨some (epB ep),.inr ⟨rfl,h0,h1⟩,t2,rfl,rfl⟩,fun hf=>?_⟩,hu,rfl,by omega,rfl⟩,fun _=>rfl⟩
    change s.up=false at hf;rw [hu] at hf;cases hf
  · have hf:(aI s l ep).2=13:=by unfold aI;rw [if_pos (by omega)]
    rw [hf]
    exact ⟨fun h=>(by cases h),fun h=>(by omega)⟩
theorem w7 {l:List ATxn} (h:∀ t,t∈l→aO t=0):(encs l).length≤l.length*487:=by
  induction l with
  | nil=>exact Nat.zero_le _
  | cons x l ih=>
    have h1:=ih fun t ht=>h t (List.mem_cons_of_mem _ ht)
    have h2:=lA (h x (List.mem_cons_self ..))
    have h3:=fh (h x (List.mem_cons_self ..))
    rw [dL,List.length_append,List.length_cons];omega
structure WInv (w:AWorld) (g:Nat→Gh) (es:Int) (K:List ATxn) (n:Nat):Prop where
  sl:w.sv.length=3
  fl:w.fl.length=3
  cl:w.cl.length=16
  pr:Pr g w.leader es K n
  sv:∀ j,j < 3→ia (w.s j) (g j) j
  small:∀ j,j < 3→(g j).D.length≤n
  lead:0≤w.leader→w.f w.leader.toNat=true∧(w.s w.leader.toNat).peer.done=(g w.leader.toNat).D.length
  fol:0≤w.leader→∀ j,j < 3→w.f j=true→(w.s j).up=true∧(g j).D=(g w.leader.toNat).D
  ack:w.done.Sublist K
  cli:∀ i,i < 16→(w.c i).session=(i:Int)+1∧Old w.leader es (g w.leader.toNat).D n (w.c i).seen
theorem pD {α:Type} (l:List α) (i j:Nat) (x d:α) (h:i < l.length):(l.set i x).getD j d=if j=i then x else l.getD j d:=by
  rw [List.getD_eq_getElem?_getD,List.getD_eq_getElem?_getD,List.getElem?_set]
  by_cases e:i=j
  · subst e;rw [if_pos rfl,if_pos rfl,if_pos h];rfl
  · rw [if_neg e,if_neg (fun h=>e h.symm)]
theorem dO {w:AWorld} {i:Nat} (h:i < w.sv.length) (s:AServer) (j:Nat):(w.setS i s).s j=if j=i then s else w.s j:=pD _ _ _ _ _ h
theorem oL {w:AWorld} {i:Nat} (h:i < w.fl.length) (b:Bool) (j:Nat):(w.setF i b).f j=if j=i then b else w.f j:=pD _ _ _ _ _ h
theorem yW {w:AWorld} {i:Nat} (h:i < w.cl.length) (c:AClient) (j:Nat):(w.setC i c).c j=if j=i then c else w.c j:=pD _ _ _ _ _ h
theorem xh (w:AWorld) (j:Nat):w.resign.f j=false:=by
  unfold AWorld.resign AWorld.f
  rcases j with _ | _ | _ | j<;>rfl
theorem WInv.mono {w:AWorld} {g:Nat→Gh} {es:Int} {K:List ATxn} {n m:Nat} (h:WInv w g es K n) (hm:n≤m):WInv w g es K m:=
  { h with pr:=h.pr.mono hm,small:=fun j hj=>Nat.le_trans (h.small j hj) hm,cli:=fun i hi=>⟨(h.cli i hi).1,(h.cli i hi).2.up hm⟩ }
theorem WInv.deeds {w:AWorld} {g:Nat→Gh} {es:Int} {K:List ATxn} {n:Nat} (h:WInv w g es K n) (d:Int):WInv { w with deeds:=d } g es K n:=
  ⟨h.sl,h.fl,h.cl,h.pr,h.sv,h.small,h.lead,h.fol,h.ack,h.cli⟩
theorem WInv.resign {w:AWorld} {g:Nat→Gh} {es:Int} {K:List ATxn} {n:Nat} (h:WInv w g es K n):WInv w.resign g es K n:=
  ⟨h.sl,rfl,h.cl,h.pr.resign,h.sv,h.small,fun h0=>absurd h0 (show ¬ (0:Int)≤-1 by decide),fun h0=>absurd h0 (show ¬ (0:Int)≤-1 by decide),h.ack,fun i hi=>⟨(h.cli i hi).1,(h.cli i hi).2.gone _⟩⟩
theorem WInv.crash {w:AWorld} {g:Nat→Gh} {es:Int} {K:List ATxn} {n:Nat} (h:WInv w g es K n) {i:Nat} (hi:i < 3) (keep:Int):∃ g',WInv (dN w i keep).1 g' es K n:=by
  unfold dN
  by_cases hu:(w.s i).up=false
  · rw [if_pos hu];exact ⟨g,h⟩
  rw [if_neg hu]
  by_cases hc:(bw (w.s i) keep).2=0
  case neg=>rw [if_pos hc];exact ⟨g,h⟩
  rw [if_neg (fun h=>h hc)]
  obtain ⟨k,k1,k2,k3,k4⟩:=IB (h.sv i hi) (by simpa using hu) hc
  have hsl:=h.sl
  have hfl:=h.fl
  have hsm:=h.small
  have hsv:∀ j,j < 3→ia ((w.setS i (bw (w.s i) keep).1).s j) (upd g i ⟨(g i).D.take k,k,(g i).E⟩ j) j:=fun j hj=>by
    rw [dO (by omega)]
    by_cases e:j=i
    · subst e;rw [if_pos rfl,cX];exact k3
    · rw [if_neg e,bO _ _ e];exact h.sv j hj
  have hsmall:∀ j,j < 3→(upd g i ⟨(g i).D.take k,k,(g i).E⟩ j).D.length≤n:=fun j hj=>by
    by_cases e:j=i
    · subst e;rw [cX];simp only;rw [List.length_take];have:=hsm j hj;omega
    · rw [bO _ _ e];exact hsm j hj
  refine ⟨upd g i ⟨(g i).D.take k,k,(g i).E⟩,?_⟩
  by_cases hl:w.leader=i
  · rw [if_pos hl]
    refine ⟨by simp only [AWorld.resign,AWorld.setF,AWorld.setS,List.length_set];exact hsl,rfl,h.cl,h.pr.resign.cut hi (fun h0=>absurd h0 (by decide)) k1 k2,hsv,hsmall,fun h0=>absurd h0 (show ¬ (0:Int)≤-1 by decide),fun h0=>absurd h0 (show ¬ (0:Int)≤-1 by decide),h.ack,fun m hm=>⟨(h.cli m hm).1,(h.cli m hm).2.gone _⟩⟩
  · rw [if_neg hl]
    have hne:0≤w.leader→w.leader.toNat≠i:=fun h0 e=>hl (by omega)
    have hf:∀ j,((w.setS i (bw (w.s i) keep).1).setF i false).f j=if j=i then false else w.f j:=fun j=>oL (w:=w.setS i (bw (w.s i) keep).1) (by show i < w.fl.length;omega) false j
    have hs:∀ j,((w.setS i (bw (w.s i) keep).1).setF i false).s j=if j=i then (bw (w.s i) keep).1 else w.s j:=fun j=>dO (by omega) _ j
    refine ⟨by simp only [AWorld.setF,AWorld.setS,List.length_set];exact hsl,by simp only [AWorld.setF,AWorld.setS,List.length_set];exact hfl,h.cl,h.pr.cut hi hne k1 k2,hsv,hsmall,fun h0=>?_,fun h0 j hj hfj=>?_,h.ack,fun m hm=>⟨(h.cli m hm).1,?_⟩⟩
    · change 0≤w.leader at h0
      show ((w.setS i (bw (w.s i) keep).1).setF i false).f w.leader.toNat=true∧(((w.setS i (bw (w.s i) keep).1).setF i false).s w.leader.toNat).peer.done=_
      rw [hf,hs,if_neg (hne h0),if_neg (hne h0)]
      show _∧_=(((upd g i ⟨(g i).D.take k,k,(g i).E⟩ w.leader.toNat).D.length:Nat):Int)
      rw [bO _ _ (hne h0)];exact h.lead h0
    · rw [hf] at hfj
      by_cases e:j=i
      · rw [if_pos e] at hfj;cases hfj
      rw [if_neg e] at hfj
      change 0≤w.leader at h0
      have:=h.fol h0 j hj hfj
      show (((w.setS i (bw (w.s i) keep).1).setF i false).s j).up=true∧_=(upd g i ⟨(g i).D.take k,k,(g i).E⟩ w.leader.toNat).D
      rw [hs,if_neg e,bO _ _ e,bO _ _ (hne h0)]
      exact this
    · show Old w.leader es (upd g i ⟨(g i).D.take k,k,(g i).E⟩ w.leader.toNat).D n (w.c m).seen
      have ho:=(h.cli m hm).2
      by_cases h0:0≤w.leader
      · rw [bO _ _ (hne h0)];exact ho
      · exact ⟨ho.1,ho.2.1,ho.2.2.1,fun h=>absurd h h0⟩
theorem WInv.up {w:AWorld} {g:Nat→Gh} {es:Int} {K:List ATxn} {n:Nat} (h:WInv w g es K n) {i:Nat} (hi:i < 3):WInv (upW w i).1 g es K n:=by
  unfold upW
  by_cases hu:(w.s i).up=true
  · rw [if_pos hu];exact h
  rw [if_neg hu]
  have hu':(w.s i).up=false:=by simpa using hu
  obtain ⟨b1,b2,b3,b4,b5⟩:=By (h.sv i hi) hu' hi
  rw [if_neg (fun h=>h b1)]
  have hsl:=h.sl
  have hs:∀ j,(w.setS i (cD i (w.s i).disk.files).1).s j=if j=i then (cD i (w.s i).disk.files).1 else w.s j:=fun j=>dO (by omega) _ j
  refine ⟨by simp only [AWorld.setS,List.length_set];exact hsl,h.fl,h.cl,h.pr,fun j hj=>?_,h.small,fun h0=>?_,fun h0 j hj hf=>?_,h.ack,h.cli⟩
  · rw [hs]
    by_cases e:j=i
    · subst e;rw [if_pos rfl];exact b2
    · rw [if_neg e];exact h.sv j hj
  · change 0≤w.leader at h0
    have hl:=h.lead h0
    have hl2:=h.fol h0 w.leader.toNat (by have:=(h.pr.ld0 h0).1;omega) hl.1
    have hne:w.leader.toNat≠i:=fun e=>by rw [e,hu'] at hl2;cases hl2.1
    show w.f w.leader.toNat=true∧((w.setS i (cD i (w.s i).disk.files).1).s w.leader.toNat).peer.done=_
    rw [hs,if_neg hne];exact hl
  · change 0≤w.leader at h0
    have hj2:=h.fol h0 j hj hf
    have hne:j≠i:=fun e=>by rw [e,hu'] at hj2;cases hj2.1
    show ((w.setS i (cD i (w.s i).disk.files).1).s j).up=true∧_
    rw [hs,if_neg hne];exact hj2
theorem ia.watch {s:AServer} {g:Gh} {j:Nat} (h:ia s g j) (hu:s.up=true) (l:List AWatch):ia { s with watches:=l } g j:=by
  obtain ⟨hid,h1,_⟩:=h
  obtain ⟨e,he,hk,hlg,hep⟩:=h1 hu
  refine ⟨hid,fun _=>⟨e,he,⟨hk.up,hk.disk,hk.le,hk.log,hk.small,hk.elen,hk.d0,hk.dl,hk.tree,hk.play⟩,hlg,hep⟩,fun hf=>?_⟩
  change s.up=false at hf;rw [hu] at hf;cases hf
theorem Pr.zero {g:Nat→Gh} {ld es:Int} {K:List ATxn} {n:Nat} (h:Pr g ld es K n):Old ld es (g ld.toNat).D n 0:=
  ⟨Int.le_refl _,h.es0,Int.natCast_nonneg _,fun h0=>.inr (ex (h.pos ld.toNat (by have:=h.ld0 h0;omega)))⟩
theorem WInv.treeOld {w:AWorld} {g:Nat→Gh} {es:Int} {K:List ATxn} {n:Nat} (h:WInv w g es K n) {i:Nat} (hi:i < 3) (hu:(w.s i).up=true):Old w.leader es (g w.leader.toNat).D n (w.s i).tree.zxid:=by
  obtain ⟨e,he,hk,hlg,hep⟩:=(h.sv i hi).2.1 hu
  rcases hk.posZ.2.2 with h0 | ⟨x,hx,hz⟩
  · rw [h0];exact h.pr.zero
  · rw [←hz];exact h.pr.old i hi x (by rw [←hlg];exact hx)
theorem WInv.setC {w:AWorld} {g:Nat→Gh} {es:Int} {K:List ATxn} {n:Nat} (h:WInv w g es K n) {k:Nat} (hk:k < 16) {c:AClient} (hs:c.session=(k:Int)+1) (ho:Old w.leader es (g w.leader.toNat).D n c.seen):WInv (w.setC k c) g es K n:=by
  have hcl:=h.cl
  refine ⟨h.sl,h.fl,by simp only [AWorld.setC,List.length_set];exact hcl,h.pr,h.sv,h.small,h.lead,h.fol,h.ack,fun i hi=>?_⟩
  rw [yW (by omega)]
  by_cases e:i=k
  · subst e;rw [if_pos rfl];exact ⟨hs,ho⟩
  · rw [if_neg e];exact h.cli i hi
theorem WInv.setS {w:AWorld} {g:Nat→Gh} {es:Int} {K:List ATxn} {n:Nat} (h:WInv w g es K n) {i:Nat} (hi:i < 3) {s:AServer} (hs:ia s (g i) i) (hu:s.up=(w.s i).up) (hd:s.peer.done=(w.s i).peer.done):WInv (w.setS i s) g es K n:=by
  have hsl:=h.sl
  refine ⟨by simp only [AWorld.setS,List.length_set];exact hsl,h.fl,h.cl,h.pr,fun j hj=>?_,h.small,fun h0=>?_,fun h0 j hj hf=>?_,h.ack,h.cli⟩
  · rw [dO (by omega)]
    by_cases e:j=i
    · subst e;rw [if_pos rfl];exact hs
    · rw [if_neg e];exact h.sv j hj
  · show w.f w.leader.toNat=true∧((w.setS i s).s w.leader.toNat).peer.done=_
    rw [dO (by omega)]
    by_cases e:w.leader.toNat=i
    · rw [if_pos e,hd,←e];exact h.lead h0
    · rw [if_neg e];exact h.lead h0
  · show ((w.setS i s).s j).up=true∧_
    rw [dO (by omega)]
    by_cases e:j=i
    · rw [if_pos e,hu,←e];exact h.fol h0 j hj hf
    · rw [if_neg e];exact h.fol h0 j hj hf
theorem WInv.read {w:AWorld} {g:Nat→Gh} {es:Int} {K:List ATxn} {n:Nat} (h:WInv w g es K n) (d:ADeed):WInv (gV w d).1 g es K n:=by
  unfold gV
  split
  · exact h
  rename_i hd
  have hi:d.server.toNat < 3:=by omega
  have hk:d.client.toNat < 16:=by omega
  simp only
  split
  · exact h
  rename_i hu
  have hu:(w.s d.server.toNat).up=true:=by simpa using hu
  have ho:=h.treeOld hi hu
  have hc:=h.cli _ hk
  split
  · exact h
  rename_i hs
  have hse:eW (w.c d.client.toNat) (w.s d.server.toNat).tree.zxid=({ w.c d.client.toNat with seen:=(w.s d.server.toNat).tree.zxid },0):=by
    unfold eW at hs ⊢
    split
    · rename_i hh;rw [if_pos hh] at hs;exact absurd (show (15:Int)≠0 by decide) hs
    · rfl
  rw [hse]
  split
  · split
    · exact h
    · refine WInv.setC ?_ hk ?_ ?_
      · exact WInv.setS h hi (ia.watch (h.sv _ hi) hu (ka (w.s d.server.toNat).watches ⟨(w.c d.client.toNat).session,1,d.request.path⟩).1) rfl rfl
      · exact hc.1
      · exact ho
  · exact h.setC hk hc.1 ho
theorem vS {w:AWorld} (h:w.sv.length=3):w.sv=[w.s 0,w.s 1,w.s 2]:=by
  unfold AWorld.s
  rcases e:w.sv with _ | ⟨a,_ | ⟨b,_ | ⟨c,_ | ⟨d,r⟩⟩⟩⟩
  all_goals rw [e] at h
  all_goals first | (simp at h;done) | rfl
theorem gO {w:AWorld} (h:w.sv.length=3) {p:APeer}:p∈bI w↔∃ j,j < 3∧(w.s j).up=true∧p=(w.s j).peer:=by
  unfold bI
  rw [vS h,List.mem_map]
  constructor
  · rintro ⟨s,hs,rfl⟩
    obtain ⟨h1,h2⟩:=List.mem_filter.1 hs
    simp only [List.mem_cons,List.not_mem_nil,or_false] at h1
    rcases h1 with rfl | rfl | rfl
    · exact ⟨0,by decide,h2,rfl⟩
    · exact ⟨1,by decide,h2,rfl⟩
    · exact ⟨2,by decide,h2,rfl⟩
  · rintro ⟨j,hj,hu,rfl⟩
    refine ⟨w.s j,List.mem_filter.2 ⟨?_,hu⟩,rfl⟩
    have:j=0∨j=1∨j=2:=by omega
    rcases this with rfl | rfl | rfl<;>simp
theorem wU {w:AWorld} (h:w.sv.length=3) (hid:∀ j,j < 3→(w.s j).peer.id=j):List.Pairwise (fun a b:APeer=>a.id < b.id) (bI w):=by
  unfold bI
  rw [vS h,List.pairwise_map]
  refine List.Pairwise.filter _ ?_
  have h0:=hid 0 (by decide)
  have h1:=hid 1 (by decide)
  have h2:=hid 2 (by decide)
  refine List.pairwise_cons.2 ⟨fun b hb=>?_,List.pairwise_cons.2 ⟨fun b hb=>?_,List.pairwise_singleton _ _⟩⟩
  · rcases List.mem_cons.1 hb with rfl | hb
    · omega
    · rw [List.mem_singleton.1 hb];omega
  · rw [List.mem_singleton.1 hb];omega
theorem D1 {w:AWorld} (h:w.sv.length=3) (hid:∀ j,j < 3→(w.s j).peer.id=j) (hl:2≤(bI w).length):Two fun j=>(w.s j).up=true:=by
  have hp:=wU h hid
  have h0:=List.getElem_mem (l:=bI w) (n:=0) (by omega)
  have h1:=List.getElem_mem (l:=bI w) (n:=1) (by omega)
  have hlt:=List.pairwise_iff_getElem.1 hp 0 1 (by omega) (by omega) (by omega)
  obtain ⟨i,a1,a2,a3⟩:=(gO h).1 h0
  obtain ⟨j,b1,b2,b3⟩:=(gO h).1 h1
  refine ⟨i,j,a1,b1,fun e=>?_,a2,b2⟩
  subst e
  rw [a3,b3] at hlt
  omega
def Flw (w:AWorld) (g:Nat→Gh) (l:List ATxn) (ep:Int):Prop:=∀ j,j < 3→w.f j=true→(w.s j).up=true∧g j=⟨l,l.length,ep⟩∧(w.s j).peer.done=l.length
theorem pc {l:List ATxn} {ep es:Int} {n b:Nat} {K:List ATxn} (ho:logOk l) (hl:(encs l).length≤1048576) (hp:∃ v,bB t00 l=some v) (h0:0≤ep) (h1:ep≤2147483647) (he:es < ep) (hn:ep≤n) (hll:l.length≤n) (hb:b < 3) (hK:K <+: l) :
    ∀ (r:List Nat) (w:AWorld) (ns:List ANote) (g:Nat→Gh),r.Nodup→(∀ i,i∈r→i < 3)→WInv w g es K n→w.leader=-1→(g b).D=l→Flw w g l ep→
      ∃ g',WInv (bM l ep r w ns).1 g' es K n∧(bM l ep r w ns).1.leader=-1∧(g' b).D=l∧Flw (bM l ep r w ns).1 g' l ep∧(∀ j,((bM l ep r w ns).1.s j).up=(w.s j).up)∧
        ((bM l ep r w ns).2.2=0→∀ j,j∈r→(w.s j).up=true→(bM l ep r w ns).1.f j=true)∧(∀ j,w.f j=true→(bM l ep r w ns).1.f j=true)∧
        ((∀ j,j∈r→(w.s j).peer.done=0)→(bM l ep r w ns).2.2=0)∧(bM l ep r w ns).1.done=w.done∧(bM l ep r w ns).1.deeds=w.deeds
  | [],w,ns,g,_,_,hw,hld,hbl,hf=>⟨g,hw,hld,hbl,hf,fun _=>rfl,fun _ j hj=>(by cases hj),fun _ h=>h,fun _=>rfl,rfl,rfl⟩
  | i :: r,w,ns,g,hnd,hr,hw,hld,hbl,hf=>by
    have hi:i < 3:=hr i (List.mem_cons_self ..)
    have hr2:∀ j,j∈r→j < 3:=fun j hj=>hr j (List.mem_cons_of_mem _ hj)
    obtain ⟨hnd1,hnd2⟩:=List.nodup_cons.1 hnd
    rw [bM]
    by_cases hu:(w.s i).up=false
    · rw [if_pos hu]
      obtain ⟨g',q1,q2,q3,q4,q5,q6,q7,q8,q9⟩:=pc ho hl hp h0 h1 he hn hll hb hK r w ns g hnd2 hr2 hw hld hbl hf
      refine ⟨g',q1,q2,q3,q4,q5,fun hz j hj hj2=>?_,q7,fun hd=>q8 fun j hj=>hd j (List.mem_cons_of_mem _ hj),q9⟩
      rcases List.mem_cons.1 hj with e | e
      · subst e;rw [hu] at hj2;cases hj2
      · exact q6 hz j e hj2
    rw [if_neg hu]
    have hu:(w.s i).up=true:=by simpa using hu
    have hone:∀ x y,x∈l→y∈(g i).D→x.zxid=y.zxid→x=y:=fun x y hx hy=>hw.pr.one b i hb hi x y (by rw [hbl];exact hx) hy
    obtain ⟨s1,s2⟩:=Dt (hw.sv i hi) hu ho hl hp hone h0 h1
    by_cases hfz:(aI (w.s i) l ep).2=0
    case neg=>
      rw [if_pos hfz]
      exact ⟨g,hw,hld,hbl,hf,fun _=>rfl,fun hz=>absurd hz hfz,fun _ h=>h,fun hd=>absurd (s2 (hd i (List.mem_cons_self ..))) hfz,rfl,rfl⟩
    rw [if_neg (fun h=>h hfz)]
    obtain ⟨t1,t2,t3,t4,_⟩:=s1 hfz
    generalize (aI (w.s i) l ep).1=F at t1 t2 t3 ⊢
    obtain ⟨c1,c2,c3,c4⟩:=uM t1 t2 (n:=(l.length:Int)) (by rw [t3];exact t4) (Int.le_refl _)
    rw [if_neg (fun h=>h c1)]
    generalize (aC F l.length).2.1=ms
    generalize (aC F l.length).1=s at c2 c3 c4 ⊢
    have hsl:=hw.sl
    have hfl:=hw.fl
    have hs:∀ j,((w.setS i s).setF i true).s j=if j=i then s else w.s j:=fun j=>dO (by omega) _ j
    have hff:∀ j,((w.setS i s).setF i true).f j=if j=i then true else w.f j:=fun j=>oL (w:=w.setS i s) (by show i < w.fl.length;omega) true j
    have hgb:(upd g i ⟨l,l.length,ep⟩ b).D=l:=by
      by_cases e:b=i
      · subst e;rw [cX]
      · rw [bO _ _ e];exact hbl
    have hld2:((w.setS i s).setF i true).leader=-1:=hld
    have hwi:WInv ((w.setS i s).setF i true) (upd g i ⟨l,l.length,ep⟩) es K n:=by
      have hpr:=hw.pr
      rw [hld] at hpr
      have hpf:=hpr.follow hi hb (by rw [hbl];exact hK) he hn
      rw [hbl] at hpf
      refine ⟨by simp only [AWorld.setF,AWorld.setS,List.length_set];exact hsl,by simp only [AWorld.setF,AWorld.setS,List.length_set];exact hfl,hw.cl,by rw [hld2];exact hpf,fun j hj=>?_,fun j hj=>?_,fun h=>?_,fun h=>?_,hw.ack,fun m hm=>⟨(hw.cli m hm).1,?_⟩⟩
      · rw [hs]
        by_cases e:j=i
        · subst e;rw [if_pos rfl,cX];exact c2
        · rw [if_neg e,bO _ _ e];exact hw.sv j hj
      · by_cases e:j=i
        · subst e;rw [cX];exact hll
        · rw [bO _ _ e];exact hw.small j hj
      · rw [hld2] at h;exact absurd h (by decide)
      · rw [hld2] at h;exact absurd h (by decide)
      · rw [hld2];exact (hw.cli m hm).2.gone _
    have hfw:Flw ((w.setS i s).setF i true) (upd g i ⟨l,l.length,ep⟩) l ep:=fun j hj hj2=>by
      rw [hs]
      by_cases e:j=i
      · subst e;rw [if_pos rfl,cX];exact ⟨c3,rfl,c4⟩
      · rw [hff,if_neg e] at hj2
        rw [if_neg e,bO _ _ e];exact hf j hj hj2
    obtain ⟨g',q1,q2,q3,q4,q5,q6,q7,q8,q9⟩:=pc ho hl hp h0 h1 he hn hll hb hK r ((w.setS i s).setF i true) (ns++ms) _ hnd2 hr2 hwi hld2 hgb hfw
    have hup:∀ j,(((w.setS i s).setF i true).s j).up=(w.s j).up:=fun j=>by
      rw [hs]
      by_cases e:j=i
      · subst e;rw [if_pos rfl,c3,hu]
      · rw [if_neg e]
    refine ⟨g',q1,q2,q3,q4,fun j=>(q5 j).trans (hup j),fun hz j hj hj2=>?_,fun j hj=>q7 j ?_,fun hd=>q8 fun j hj=>?_,q9⟩
    · rcases List.mem_cons.1 hj with e | e
      · exact q7 j (by rw [hff,if_pos e])
      · exact q6 hz j e (by rw [hup];exact hj2)
    · rw [hff];split
      · rfl
      · exact hj
    · rw [hs,if_neg (fun e=>hnd1 (by rw [←e];exact hj))]
      exact hd j (List.mem_cons_of_mem _ hj)
theorem ww {w:AWorld} {i:Nat} (h:i < w.cl.length) (ns:List ANote):(eA w ns).c i=⟨(w.c i).session,(w.c i).seen,dU (w.c i).session (w.c i).cache ns⟩:=by
  unfold eA AWorld.c
  simp only
  rw [List.getD_eq_getElem?_getD,List.getElem?_map,List.getElem?_eq_getElem h,List.getD_eq_getElem?_getD,List.getElem?_eq_getElem h];rfl
theorem WInv.tell {w:AWorld} {g:Nat→Gh} {es:Int} {K:List ATxn} {n:Nat} (h:WInv w g es K n) (ns:List ANote):WInv (eA w ns) g es K n:=by
  have hcl:=h.cl
  refine ⟨h.sl,h.fl,by unfold eA;simp only [List.length_map];exact hcl,h.pr,h.sv,h.small,h.lead,h.fol,h.ack,fun i hi=>?_⟩
  rw [ww (by omega)];exact h.cli i hi
theorem WInv.ids {w:AWorld} {g:Nat→Gh} {es:Int} {K:List ATxn} {n:Nat} (h:WInv w g es K n):∀ j,j < 3→(w.s j).peer.id=j:=fun j hj=>(h.sv j hj).1
theorem WInv.elect {w:AWorld} {g:Nat→Gh} {es:Int} {K:List ATxn} {n:Nat} (h:WInv w g es K n) (hn:n < 1000) :
    ∃ g' es',WInv (dv w).1 g' es' K (n+1)∧(dv w).1.done=w.done∧(dv w).1.deeds=w.deeds∧(∀ j,((dv w).1.s j).up=(w.s j).up)∧
      ((dv w).2.code=0→0≤(dv w).1.leader∧∀ j,j < 3→(w.s j).up=true→(dv w).1.f j=true∧((dv w).1.s j).peer.done=(g' j).D.length)∧
      (2≤(bI w).length→(∀ j,j < 3→(w.s j).peer.done=0)→(dv w).2.code=0):=by
  have hids:=h.ids
  have hup:∀ j,j < 3→(w.s j).up=true→(w.s j).peer.log=(g j).D∧(w.s j).peer.epoch=(g j).E∧(∃ v,bB t00 (g j).D=some v):=fun j hj hu=>by
    obtain ⟨e,he,hk,hlg,hep⟩:=(h.sv j hj).2.1 hu
    exact ⟨hlg,hep,by rw [←hlg];exact hk.play⟩
  have hpe:∀ p,p∈bI w→0≤p.id∧p.id < 3∧0≤p.epoch∧p.epoch≤(n:Int)∧epZ (ay p.log)≤(n:Int):=fun p hp=>by
    obtain ⟨j,hj,hu,rfl⟩:=(gO h.sl).1 hp
    obtain ⟨u1,u2,_⟩:=hup j hj hu
    have h1:=hids j hj
    have h2:=h.pr.E0 j hj
    refine ⟨by omega,by omega,by omega,by omega,?_⟩
    rw [u1]
    have hes:=h.pr.esn
    by_cases e:(g j).D=[]
    · rw [e,gR]
      show epZ 0≤_
      have:epZ 0=0:=by decide
      omega
    · obtain ⟨x,q1,q2⟩:=fe e
      rw [←q2]
      have ho:=h.pr.old j hj x q1
      unfold epZ
      split
      · have:=ho.2.1;omega
      · omega
  obtain ⟨e1,e2⟩:=E1 (l:=bI w) (B:=(n:Int)) (by omega) (by omega) (wU h.sl hids) hpe
  unfold dv
  by_cases hlen:(bI w).length < 2
  · rw [e1 hlen,if_pos (show (14:Int)≠0 by decide)]
    exact ⟨g,es,h.mono (by omega),rfl,rfl,fun _=>rfl,fun hc=>absurd (show (14:Int)=0 from hc) (by decide),fun hc=>absurd hc (by omega)⟩
  obtain ⟨b,ep,hel,hb1,hb2,hb3⟩:=e2 (by omega)
  rw [hel,if_neg (fun h=>h rfl)]
  simp only
  rw [show ((b:Nat):Int).toNat=b from rfl]
  have hpm:=bX (bI w) b hb1
  obtain ⟨jb,j1,j2,j3⟩:=(gO h.sl).1 hpm
  rw [j3] at hb2 ⊢
  obtain ⟨u1,u2,u3⟩:=hup jb j1 j2
  have hU:=D1 h.sl hids (by omega)
  rw [u1] at hb2 ⊢
  have hK:K <+: (g jb).D:=h.pr.best hU j1 fun j hj hu=>by
    have:=(hb2 _ ((gO h.sl).2 ⟨j,hj,hu,rfl⟩)).1
    rwa [(hup j hj hu).1] at this
  have hes:es < ep:=h.pr.epoch hU fun j hj hu=>by
    have:=(hb2 _ ((gO h.sl).2 ⟨j,hj,hu,rfl⟩)).2
    rwa [(hup j hj hu).2.1] at this
  have hes0:=h.pr.es0
  have hlog:=h.pr.log jb j1
  have hsm:=h.small jb j1
  have henc:=w7 hlog.2
  obtain ⟨g',q1,q2,q3,q4,q5,q6,q7,q8,q9,q10⟩:=pc (n:=n+1) (b:=jb) hlog (by omega) u3 (by omega) (by omega) hes (by omega) (by omega) j1 hK [0,1,2] w.resign [] g (by decide) (fun i hi=>by simp at hi;omega) (h.resign.mono (by omega)) rfl rfl (fun j _ hf=>by rw [xh] at hf;cases hf)
  have hin:∀ j,j < 3→j∈[0,1,2]:=fun j hj=>by
    have:j=0∨j=1∨j=2:=by omega
    rcases this with rfl | rfl | rfl<;>simp
  by_cases hz:(bM (g jb).D ep [0,1,2] w.resign []).2.2=0
  case neg=>
    rw [if_pos hz]
    exact ⟨g',es,q1,q9,q10,q5,fun hc=>absurd hc hz,fun _ hd=>absurd (q8 fun j hj=>hd j (by simp at hj;omega)) hz⟩
  rw [if_neg (fun h=>h hz)]
  have q6':=q6 hz
  generalize bM (g jb).D ep [0,1,2] w.resign []=R at q1 q2 q3 q4 q5 q6' q7 q9 q10 hz ⊢
  have hfu:∀ j,j < 3→(w.s j).up=true→R.1.f j=true:=fun j hj hu=>q6' j (hin j hj) hu
  have hjb:=q4 jb j1 (hfu jb j1 j2)
  have hidb:=hids jb j1
  have hpr:=q1.pr
  rw [q2] at hpr
  have hprl:=hpr.lead hes (by omega) (hU.mono fun j hj hu=>by rw [(q4 j hj (hfu j hj hu)).2.1];exact Int.le_refl _) j1 (by rw [hjb.2.1]) (by rw [q3];exact hK)
  have hwi:WInv { R.1 with leader:=(jb:Int) } g' ep K (n+1):=by
    refine ⟨q1.sl,q1.fl,q1.cl,hprl,q1.sv,q1.small,fun _=>?_,fun _ j hj hf=>?_,q1.ack,fun m hm=>⟨(q1.cli m hm).1,(q1.cli m hm).2.lead hes _⟩⟩
    · show R.1.f jb=true∧(R.1.s jb).peer.done=((g' jb).D.length:Int)
      exact ⟨hfu jb j1 j2,by rw [hjb.2.2,hjb.2.1]⟩
    · show (R.1.s j).up=true∧(g' j).D=(g' jb).D
      have:=q4 j hj hf
      exact ⟨this.1,by rw [this.2.1,hjb.2.1]⟩
  rw [hidb]
  refine ⟨g',ep,hwi.tell _,q9,q10,q5,fun _=>⟨Int.natCast_nonneg _,fun j hj hu=>?_⟩,fun _ _=>rfl⟩
  have:=q4 j hj (hfu j hj hu)
  show R.1.f j=true∧(R.1.s j).peer.done=((g' j).D.length:Int)
  exact ⟨hfu j hj hu,by rw [this.2.2,this.2.1]⟩
theorem Cn {t:ATree} {z:Int} {r:ARequest} (h:(cF t z r).2=0):(cF t z r).1.zxid=z∧(ar t (cF t z r).1).2.2=0:=by
  unfold cF at h ⊢
  split
  · rename_i h1
    rw [if_pos h1] at h
    split
    · rename_i h2
      rw [if_pos h2] at h
      split
      · rename_i h3
        refine ⟨?_,h3⟩
        simp only
        unfold eK at h2 ⊢
        by_cases o1:r.op=1∨r.op=2
        · rw [if_pos o1]
        rw [if_neg o1] at h2 ⊢
        by_cases o3:r.op=3
        · rw [if_pos o3]
        rw [if_neg o3] at h2 ⊢
        by_cases o4:r.op=4
        · rw [if_pos o4]
        rw [if_neg o4] at h2 ⊢
        by_cases o5:r.op=5
        · rw [if_pos o5]
        rw [if_neg o5] at h2
        exact absurd (show (4:Int)=0 from h2) (by decide)
      · rename_i h3
        rw [if_neg h3] at h;exact absurd h h3
    · rename_i h2
      rw [if_neg h2] at h;exact absurd h h2
  · rename_i h1
    rw [if_neg h1] at h
    exact absurd (show (3:Int)=0 from h) (by decide)
theorem Ch {t:ATree} {x:ATxn} (h:(ar t x).2.2=0):aO x=0∧t.zxid < x.zxid:=by
  have h0:cV t x=0:=by
    apply Classical.byContradiction;intro hw
    rw [oC hw] at h;exact hw h
  have:=dX h0
  exact ⟨this.2.1,this.2.2.1⟩
theorem ol {x:ATxn} {lead lost slow:Int} {L:List ATxn} (hx:aO x=0) (hz:ay L < x.zxid) (hl:(encs L).length+(cL x).1.length≤1048576) (hp:∃ v,bB t00 (L++[x])=some v) :
    ∀ (r:List Nat) (w:AWorld) (g:Nat→Gh) (hv:List Nat),r.Nodup→(∀ i,i∈r→i < 3)→w.sv.length=3→w.fl.length=3→(∀ j,j < 3→ia (w.s j) (g j) j)→(∀ j,j∈r→w.f j=true→(w.s j).up=true∧(g j).D=L)→
      ∃ (g':Nat→Gh) (hv':List Nat),(bW x lead lost slow r w hv).2=(hv++hv',0)∧hv'.Sublist r∧(bW x lead lost slow r w hv).1.sv.length=3∧(bW x lead lost slow r w hv).1.fl.length=3∧
        (bW x lead lost slow r w hv).1.cl=w.cl∧(bW x lead lost slow r w hv).1.leader=w.leader∧(bW x lead lost slow r w hv).1.done=w.done∧(bW x lead lost slow r w hv).1.deeds=w.deeds∧
        (∀ j,j < 3→ia ((bW x lead lost slow r w hv).1.s j) (g' j) j)∧(∀ j,((bW x lead lost slow r w hv).1.s j).up=(w.s j).up∧((bW x lead lost slow r w hv).1.s j).peer.done=(w.s j).peer.done)∧(∀ j,(g' j).E=(g j).E)∧
        (∀ j,¬ j∈r→(bW x lead lost slow r w hv).1.f j=w.f j∧g' j=g j)∧
        (∀ j,j∈r→((bW x lead lost slow r w hv).1.f j=true∧w.f j=true∧(g j).D=L∧(g' j).D=L++[x]∧(g j).a≤(g' j).a∧(g' j).a≤(g' j).D.length)∨((bW x lead lost slow r w hv).1.f j=false∧g' j=g j))∧
        (∀ j,j∈hv'→(bW x lead lost slow r w hv).1.f j=true∧(g' j).D=L++[x]∧(g' j).a=(g' j).D.length)∧
        (∀ j:Nat,lead=j→j∈r→w.f j=true→j∈hv')
  | [],w,g,hv,_,_,h1,h2,h3,_=>⟨g,[],by rw [bW,List.append_nil],List.Sublist.refl _,h1,h2,rfl,rfl,rfl,rfl,h3,fun _=>⟨rfl,rfl⟩,fun _=>rfl,fun _ _=>⟨rfl,rfl⟩,fun _ h=>(by cases h),fun _ h=>(by cases h),fun _ _ h=>(by cases h)⟩
  | i :: r,w,g,hv,hnd,hr,h1,h2,h3,h4=>by
    have hi:i < 3:=hr i (List.mem_cons_self ..)
    have hr2:∀ j,j∈r→j < 3:=fun j hj=>hr j (List.mem_cons_of_mem _ hj)
    obtain ⟨hnd1,hnd2⟩:=List.nodup_cons.1 hnd
    rw [bW]
    by_cases hf:w.f i=false
    · rw [if_pos hf]
      obtain ⟨g',hv',q0,q1,q2,q3,q4,q5,q6,q7,q8,q9,q10,q11,q12,q13,q14⟩:=ol hx hz hl hp (lead:=lead) (lost:=lost) (slow:=slow) r w g hv hnd2 hr2 h1 h2 h3 (fun j hj=>h4 j (List.mem_cons_of_mem _ hj))
      refine ⟨g',hv',q0,q1.cons _,q2,q3,q4,q5,q6,q7,q8,q9,q10,fun j hj=>q11 j fun hh=>hj (List.mem_cons_of_mem _ hh),fun j hj=>?_,q13,fun j e hj hfj=>?_⟩
      · rcases List.mem_cons.1 hj with rfl | hj
        · have:=q11 j hnd1
          exact .inr ⟨by rw [this.1,hf],this.2⟩
        · exact q12 j hj
      · rcases List.mem_cons.1 hj with rfl | hj
        · rw [hf] at hfj;cases hfj
        · exact q14 j e hj hfj
    rw [if_neg hf]
    have hf:w.f i=true:=by simpa using hf
    obtain ⟨hu,hD⟩:=h4 i (List.mem_cons_self ..) hf
    by_cases hlost:¬ lead=(i:Int)∧tE lost i=true
    · rw [if_pos hlost]
      have hff:∀ j,(w.setF i false).f j=if j=i then false else w.f j:=fun j=>oL (by omega) false j
      have hne:∀ j,j∈r→j≠i:=fun j hj e=>hnd1 (by rw [←e];exact hj)
      obtain ⟨g',hv',q0,q1,q2,q3,q4,q5,q6,q7,q8,q9,q10,q11,q12,q13,q14⟩:=ol hx hz hl hp (lead:=lead) (lost:=lost) (slow:=slow) r (w.setF i false) g hv hnd2 hr2 h1 (by simp only [AWorld.setF,List.length_set];exact h2) h3 (fun j hj hfj=>h4 j (List.mem_cons_of_mem _ hj) (by rw [hff,if_neg (hne j hj)] at hfj;exact hfj))
      refine ⟨g',hv',q0,q1.cons _,q2,q3,q4,q5,q6,q7,q8,q9,q10,fun j hj=>?_,fun j hj=>?_,q13,fun j e hj hfj=>?_⟩
      · have:=q11 j fun hh=>hj (List.mem_cons_of_mem _ hh)
        rw [hff,if_neg (fun e=>hj (by rw [e];exact List.mem_cons_self ..))] at this
        exact this
      · rcases List.mem_cons.1 hj with rfl | hj
        · have:=q11 j hnd1
          exact .inr ⟨by rw [this.1,hff,if_pos rfl],this.2⟩
        · have:=q12 j hj
          rw [hff,if_neg (hne j hj)] at this
          exact this
      · rcases List.mem_cons.1 hj with rfl | hj
        · exact absurd e hlost.1
        · exact q14 j e hj (by rw [hff,if_neg (hne j hj)];exact hfj)
    rw [if_neg hlost]
    obtain ⟨e1,e2,e3,e4,_⟩:=J5 (h3 i hi) hu hx (by rw [hD];exact hz) (by rw [hD];exact hl) (by rw [hD];exact hp) (decide (lead=(i:Int)) || !tE slow i)
    rw [if_neg (fun h=>h e1)]
    generalize hsafe:(decide (lead=(i:Int)) || !tE slow i)=safe at e1 e2 e3 e4 ⊢
    generalize (bo (w.s i) x safe).1=s at e2 e3 e4 ⊢
    have hs:∀ j,(w.setS i s).s j=if j=i then s else w.s j:=fun j=>dO (by omega) _ j
    have hne:∀ j,j∈r→j≠i:=fun j hj e=>hnd1 (by rw [←e];exact hj)
    have hal:(g i).a≤(g i).D.length:=by
      obtain ⟨e,_,hk,hlg,_⟩:=(h3 i hi).2.1 hu
      have:=hk.le;rwa [hlg] at this
    obtain ⟨g',hv',q0,q1,q2,q3,q4,q5,q6,q7,q8,q9,q10,q11,q12,q13,q14⟩:=ol hx hz hl hp (lead:=lead) (lost:=lost) (slow:=slow) r (w.setS i s) (upd g i ⟨(g i).D++[x],if safe=true then (g i).D.length+1 else (g i).a,(g i).E⟩) (if safe=true then hv++[i] else hv) hnd2 hr2 (by simp only [AWorld.setS,List.length_set];exact h1) h2 (fun j hj=>by
        rw [hs]
        by_cases e:j=i
        · subst e;rw [if_pos rfl,cX];exact e2
        · rw [if_neg e,bO _ _ e];exact h3 j hj) (fun j hj hfj=>by
        rw [hs,if_neg (hne j hj),bO _ _ (hne j hj)]
        exact h4 j (List.mem_cons_of_mem _ hj) hfj)
    have hgi:g' i=⟨(g i).D++[x],if safe=true then (g i).D.length+1 else (g i).a,(g i).E⟩:=by
      have:=(q11 i hnd1).2;rwa [cX] at this
    have hfi:(bW x lead lost slow r (w.setS i s) (if safe=true then hv++[i] else hv)).1.f i=true:=by
      rw [(q11 i hnd1).1];exact hf
    have hgE:∀ j,(upd g i ⟨(g i).D++[x],if safe=true then (g i).D.length+1 else (g i).a,(g i).E⟩ j).E=(g j).E:=fun j=>by
      by_cases e:j=i
      · subst e;rw [cX]
      · rw [bO _ _ e]
    have hso:∀ j,((w.setS i s).s j).up=(w.s j).up∧((w.setS i s).s j).peer.done=(w.s j).peer.done:=fun j=>by
      rw [hs]
      by_cases e:j=i
      · subst e;rw [if_pos rfl];exact ⟨by rw [e3,hu],e4⟩
      · rw [if_neg e];exact ⟨rfl,rfl⟩
    refine ⟨g',(if safe=true then [i] else [])++hv',?_,?_,q2,q3,q4,q5,q6,q7,q8,fun j=>⟨(q9 j).1.trans (hso j).1,(q9 j).2.trans (hso j).2⟩,fun j=>(q10 j).trans (hgE j),fun j hj=>?_,fun j hj=>?_,fun j hj=>?_,fun j e hj hfj=>?_⟩
    · rw [q0]
      cases safe
      · simp
      · simp
    · cases safe
      · exact q1.cons _
      · exact q1.cons_cons _
    · have:=q11 j fun hh=>hj (List.mem_cons_of_mem _ hh)
      rw [bO _ _ (fun e=>hj (by rw [e];exact List.mem_cons_self ..))] at this
      exact this
    · rcases List.mem_cons.1 hj with rfl | hj
      · refine .inl ⟨hfi,hf,hD,by rw [hgi,hD],?_,?_⟩
        · rw [hgi];simp only;split<;>omega
        · rw [hgi];simp only [List.length_append,List.length_singleton];split<;>omega
      · have:=q12 j hj
        rw [bO _ _ (hne j hj)] at this
        exact this
    · rcases List.mem_append.1 hj with hj | hj
      · cases safe
        · simp at hj
        · simp at hj
          subst hj
          refine ⟨hfi,by rw [hgi,hD],?_⟩
          rw [hgi];simp
      · exact q13 j hj
    · rcases List.mem_cons.1 hj with rfl | hj
      · rw [decide_eq_true e,Bool.true_or] at hsafe
        subst hsafe;simp
      · exact List.mem_append.2 (.inr (q14 j e hj hfj))
theorem rA {g:Nat→Gh}:∀ (r:List Nat) (w:AWorld) (ns:List ANote),(∀ i,i∈r→i < 3∧(w.s i).up=true)→w.sv.length=3→(∀ j,j < 3→ia (w.s j) (g j) j)→
      (bq r w ns).2.2=0∧(bq r w ns).1.sv.length=3∧(bq r w ns).1.fl=w.fl∧(bq r w ns).1.cl=w.cl∧(bq r w ns).1.leader=w.leader∧(bq r w ns).1.done=w.done∧(bq r w ns).1.deeds=w.deeds∧
        (∀ j,j < 3→ia ((bq r w ns).1.s j) (g j) j)∧(∀ j,((bq r w ns).1.s j).up=(w.s j).up)∧(∀ j,j∈r∨(w.s j).peer.done=(g j).D.length→((bq r w ns).1.s j).peer.done=(g j).D.length)
  | [],w,ns,_,h1,h2=>⟨rfl,h1,rfl,rfl,rfl,rfl,rfl,h2,fun _=>rfl,fun j hj=>hj.elim (fun h=>by cases h) id⟩
  | i :: r,w,ns,hr,h1,h2=>by
    obtain ⟨hi,hu⟩:=hr i (List.mem_cons_self ..)
    obtain ⟨e,_,hk,hlg,_⟩:=(h2 i hi).2.1 hu
    have hdl:=hk.dl
    obtain ⟨c1,c2,c3,c4⟩:=uM (h2 i hi) hu (n:=((w.s i).peer.log.length:Int)) hdl (by rw [hlg];exact Int.le_refl _)
    rw [bq,if_neg (fun h=>h c1)]
    generalize (aC (w.s i) (w.s i).peer.log.length).2.1=ms
    generalize (aC (w.s i) (w.s i).peer.log.length).1=s at c2 c3 c4 ⊢
    have hs:∀ j,(w.setS i s).s j=if j=i then s else w.s j:=fun j=>dO (by omega) _ j
    have hup:∀ j,((w.setS i s).s j).up=(w.s j).up:=fun j=>by
      rw [hs]
      by_cases e:j=i
      · subst e;rw [if_pos rfl,c3,hu]
      · rw [if_neg e]
    obtain ⟨q1,q2,q3,q4,q5,q6,q7,q8,q9,q10⟩:=rA (g:=g) r (w.setS i s) (ns++ms) (fun j hj=>⟨(hr j (List.mem_cons_of_mem _ hj)).1,by rw [hup];exact (hr j (List.mem_cons_of_mem _ hj)).2⟩) (by simp only [AWorld.setS,List.length_set];exact h1) (fun j hj=>by
      rw [hs]
      by_cases e:j=i
      · subst e;rw [if_pos rfl];exact c2
      · rw [if_neg e];exact h2 j hj)
    refine ⟨q1,q2,q3,q4,q5,q6,q7,q8,fun j=>(q9 j).trans (hup j),fun j hj=>q10 j ?_⟩
    by_cases e:j=i
    · subst e;right;rw [hs,if_pos rfl,c4,hlg]
    · rcases hj with hj | hj
      · exact .inl ((List.mem_cons.1 hj).resolve_left e)
      · right;rw [hs,if_neg e];exact hj
theorem Ms {l:List Nat} (h:l.Sublist [0,1,2]) (h2:2≤l.length):Two fun j=>j∈l:=by
  have hn:l.Nodup:=h.nodup (by decide)
  have hm:∀ j,j∈l→j < 3:=fun j hj=>by
    have:=h.subset hj
    simp at this;omega
  refine ⟨l[0],l[1],hm _ (List.getElem_mem _),hm _ (List.getElem_mem _),fun e=>?_,List.getElem_mem _,List.getElem_mem _⟩
  have:=(List.pairwise_iff_getElem.1 hn) 0 1 (by omega) (by omega) (by omega)
  exact this e
theorem WInv.lastOk {w:AWorld} {g:Nat→Gh} {es:Int} {K:List ATxn} {n:Nat} (h:WInv w g es K n) {j:Nat} (hj:j < 3):0≤ay (g j).D∧ay (g j).D / 2147483648≤es∧ay (g j).D % 2147483648≤n:=by
  have hes:=h.pr.es0
  by_cases e:(g j).D=[]
  · rw [e,gR];omega
  · obtain ⟨x,q1,q2⟩:=fe e
    have ho:=h.pr.old j hj x q1
    rw [q2] at ho
    exact ⟨ho.1,ho.2.1,ho.2.2.1⟩
theorem WInv.write {w:AWorld} {g:Nat→Gh} {es:Int} {K:List ATxn} {n:Nat} (h:WInv w g es K n) (hn:n < 1000) (d:ADeed) :
    ∃ g' K',WInv (da w d).1 g' es K' (n+1)∧(da w d).1.deeds=w.deeds∧((da w d).2.code=0→∃ x,(da w d).1.done=w.done++[x]∧(da w d).2.zxid=x.zxid)∧((da w d).2.code≠0→(da w d).1.done=w.done):=by
  have h0:∀ e:Int,e≠0→∃ g' K',WInv (w,noR e).1 g' es K' (n+1)∧(w,noR e).1.deeds=w.deeds∧((w,noR e).2.code=0→∃ x,(w,noR e).1.done=w.done++[x]∧(w,noR e).2.zxid=x.zxid)∧((w,noR e).2.code≠0→(w,noR e).1.done=w.done):=
    fun e he=>⟨g,K,h.mono (by omega),rfl,fun hc=>absurd hc he,fun _=>rfl⟩
  unfold da
  by_cases hcl:d.client < 0∨16≤d.client
  · rw [if_pos hcl];exact h0 3 (by decide)
  rw [if_neg hcl]
  by_cases hld:w.leader < 0
  · rw [if_pos hld];exact h0 14 (by decide)
  rw [if_neg hld]
  have hl0:0≤w.leader:=by omega
  obtain ⟨hl3,hlE⟩:=h.pr.ld0 hl0
  have hli:w.leader.toNat < 3:=by omega
  obtain ⟨hlf,hldone⟩:=h.lead hl0
  obtain ⟨hlu,_⟩:=h.fol hl0 _ hli hlf
  obtain ⟨ee,he,hk,hlg,hep⟩:=(h.sv _ hli).2.1 hlu
  obtain ⟨z0,z1,z2⟩:=h.lastOk hli
  obtain ⟨n1,n2,n3,n4⟩:=BS (p:=(w.s w.leader.toNat).peer) (n:=n) (by omega) h.pr.es0 h.pr.esn (by rw [hep,hlE]) (by rw [hlg];exact z0) (by rw [hlg];exact z1) (by rw [hlg];exact z2)
  rw [if_neg (fun h=>h n1)]
  simp only
  by_cases hpz:(cF (w.s w.leader.toNat).tree (dG (w.s w.leader.toNat).peer).1 (mv w d)).2=0
  case neg=>rw [if_pos hpz];exact h0 _ hpz
  rw [if_neg (fun h=>h hpz)]
  obtain ⟨p1,p2⟩:=Cn hpz
  generalize (cF (w.s w.leader.toNat).tree (dG (w.s w.leader.toNat).peer).1 (mv w d)).1=x at p1 p2 ⊢
  obtain ⟨x1,_⟩:=Ch p2
  rw [←p1] at n2 n3 n4
  rw [hlg] at n4
  have hlogl:=h.pr.log _ hli
  have henc:=w7 hlogl.2
  have hsm:=h.small _ hli
  have hxl:=lA x1
  have hxs:=fh x1
  have hplay:∃ v,bB t00 ((g w.leader.toNat).D++[x])=some v:=by
    refine ⟨(ar (w.s w.leader.toNat).tree x).1,?_⟩
    have ht:=hk.tree
    rw [hldone,hlg,List.take_of_length_le (by omega)] at ht
    rw [lT,ht]
    show bB (w.s w.leader.toNat).tree [x]=_
    rw [bB,if_pos p2];rfl
  obtain ⟨g',hv,q0,q1,q2,q3,q4,q5,q6,q7,q8,q9,q10,q11,q12,q13,q14⟩:=ol (lead:=w.leader) (lost:=d.lost) (slow:=d.slow) x1 n4 (by omega) hplay [0,1,2] w g [] (by decide) (fun i hi=>by simp at hi;omega) h.sl h.fl h.sv (fun j hj hfj=>by
    have:=h.fol hl0 j (by simp at hj;omega) hfj
    exact this)
  have hin:∀ j,j < 3→j∈[0,1,2]:=fun j hj=>by
    have:j=0∨j=1∨j=2:=by omega
    rcases this with rfl | rfl | rfl<;>simp
  rw [q0]
  rw [List.nil_append] at q0 ⊢
  generalize (bW x w.leader d.lost d.slow [0,1,2] w []).1=W at q2 q3 q4 q5 q6 q7 q8 q9 q11 q12 q13 ⊢
  rw [if_neg (fun h=>h rfl)]
  simp only
  have hT:∀ j,j < 3→((g j).D=(g w.leader.toNat).D∧(g' j).D=(g w.leader.toNat).D++[x]∧(g j).a≤(g' j).a∧(g' j).a≤(g' j).D.length)∨((g' j).D=(g j).D∧(g' j).a=(g j).a):=fun j hj=>
    (q12 j (hin j hj)).imp (fun a=>⟨a.2.2.1,a.2.2.2.1,a.2.2.2.2.1,a.2.2.2.2.2⟩) (fun a=>⟨by rw [a.2],by rw [a.2]⟩)
  have hsmall:∀ j,j < 3→(g' j).D.length≤n+1:=fun j hj=>by
    rcases hT j hj with a | a
    · rw [a.2.1,List.length_append,List.length_singleton];omega
    · rw [a.1];have:=h.small j hj;omega
  have hprm:=h.pr.mono (show n≤n+1 by omega)
  by_cases hlen:hv.length < 2
  · rw [if_pos hlen]
    refine ⟨g',K,⟨q2,rfl,by show W.cl.length=16;rw [q4];exact h.cl,hprm.took hl0 x1 n2 n4 n3 hT (fun j _=>q10 j),q8,hsmall,fun h0=>absurd h0 (show ¬ (0:Int)≤-1 by decide),fun h0=>absurd h0 (show ¬ (0:Int)≤-1 by decide),by show W.done.Sublist K;rw [q6];exact h.ack,fun m hm=>?_⟩,q7,fun hc=>absurd hc (show ¬ (16:Int)=0 by decide),fun _=>q6⟩
    have hc:W.resign.c m=w.c m:=by show W.cl.getD m default=w.cl.getD m default;rw [q4]
    rw [hc]
    exact ⟨(h.cli m hm).1,((h.cli m hm).2.up (by omega)).gone _⟩
  rw [if_neg hlen]
  have hhv:∀ j,j∈hv→j < 3:=fun j hj=>by have:=q1.subset hj;simp at this;omega
  have hWup:∀ j,j < 3→W.f j=true→(W.s j).up=true:=fun j hj hf=>by
    rcases q12 j (hin j hj) with a | a
    · rw [(q9 j).1];exact (h.fol hl0 j hj a.2.1).1
    · rw [a.1] at hf;cases hf
  obtain ⟨c1,c2,c3,c4,c5,c6,c7,c8,c9,c10⟩:=rA (g:=g') hv W [] (fun j hj=>⟨hhv j hj,hWup j (hhv j hj) (q13 j hj).1⟩) q2 q8
  have hlin:=q14 w.leader.toNat (by omega) (hin _ hli) hlf
  have hlx:=q13 _ hlin
  have hack:=hprm.ackd hl0 x1 n2 n4 n3 hT (fun j _=>q10 j) hlx.2.1 ((Ms q1 (by omega)).mono fun j _ hj=>(q13 j hj).2)
  unfold jF
  simp only
  generalize bq hv W []=R at c1 c2 c3 c4 c5 c6 c7 c8 c9 c10 ⊢
  rw [if_neg (fun h=>h c1)]
  have hRl:R.1.leader=w.leader:=by rw [c5,q5]
  have hRc:R.1.cl=w.cl:=by rw [c4,q4]
  have hlast:ay (g w.leader.toNat).D≤ay (g' w.leader.toNat).D:=by rw [hlx.2.1,fN];omega
  have hwi:WInv { R.1 with done:=R.1.done++[x] } g' es ((g w.leader.toNat).D++[x]) (n+1):=by
    refine ⟨c2,by show R.1.fl.length=3;rw [c3];exact q3,by show R.1.cl.length=16;rw [hRc];exact h.cl,by show Pr g' R.1.leader es _ _;rw [hRl];exact hack,c8,hsmall,fun _=>?_,fun _ j hj hf=>?_,?_,fun m hm=>?_⟩
    · show R.1.fl.getD R.1.leader.toNat false=true∧(R.1.s R.1.leader.toNat).peer.done=((g' R.1.leader.toNat).D.length:Int)
      rw [hRl,c3]
      exact ⟨hlx.1,c10 _ (.inl hlin)⟩
    · show (R.1.s j).up=true∧(g' j).D=(g' R.1.leader.toNat).D
      have hfj:W.f j=true:=by
        have:R.1.fl.getD j false=true:=hf
        rw [c3] at this;exact this
      rw [hRl,c9,hlx.2.1]
      refine ⟨hWup j hj hfj,?_⟩
      rcases q12 j (hin j hj) with a | a
      · exact a.2.2.2.1
      · rw [a.1] at hfj;cases hfj
    · show (R.1.done++[x]).Sublist _
      rw [c6,q6]
      exact (h.ack.trans (h.pr.k3 hl0).sublist).append (List.Sublist.refl _)
    · have hc:({ R.1 with done:=R.1.done++[x] }:AWorld).c m=w.c m:=by show R.1.cl.getD m default=w.cl.getD m default;rw [hRc]
      rw [hc]
      refine ⟨(h.cli m hm).1,?_⟩
      show Old R.1.leader es (g' R.1.leader.toNat).D (n+1) _
      rw [hRl]
      exact ((h.cli m hm).2.up (by omega)).more hlast
  have ht:=hwi.tell R.2.1
  have hwho:d.client.toNat < 16:=by omega
  have hcwho:(eA { R.1 with done:=R.1.done++[x] } R.2.1).c d.client.toNat=⟨(w.c d.client.toNat).session,(w.c d.client.toNat).seen,dU (w.c d.client.toNat).session (w.c d.client.toNat).cache R.2.1⟩:=by
    rw [ww (by show d.client.toNat < R.1.cl.length;rw [hRc,h.cl];exact hwho)]
    have hc:({ R.1 with done:=R.1.done++[x] }:AWorld).c d.client.toNat=w.c d.client.toNat:=by show R.1.cl.getD _ default=w.cl.getD _ default;rw [hRc]
    rw [hc]
  have hseen:(w.c d.client.toNat).seen≤x.zxid:=by
    have ho:=(h.cli _ hwho).2
    rcases ho.2.2.2 hl0 with a | a<;>omega
  have hsee:eW ((eA { R.1 with done:=R.1.done++[x] } R.2.1).c d.client.toNat) x.zxid=(⟨(w.c d.client.toNat).session,x.zxid,dU (w.c d.client.toNat).session (w.c d.client.toNat).cache R.2.1⟩,0):=by
    rw [hcwho];unfold eW;rw [if_neg (by simp only;omega)]
  rw [hsee,if_neg (fun h=>h rfl)]
  refine ⟨g',_,WInv.setC ht hwho (h.cli _ hwho).1 ?_,?_,fun _=>⟨x,?_,rfl⟩,fun hc=>absurd rfl hc⟩
  · show Old R.1.leader es (g' R.1.leader.toNat).D (n+1) x.zxid
    rw [hRl,hlx.2.1]
    have hes:=h.pr.es0
    exact ⟨by omega,by omega,n3,fun _=>.inr (by rw [fN];exact Int.le_refl _)⟩
  · show R.1.deeds=w.deeds
    rw [c7,q7]
  · show R.1.done++[x]=w.done++[x]
    rw [c6,q6]
theorem CE:fK []=0:=by decide +kernel
theorem Hq {i:Nat} (hi:i < 3):cD i []=(⟨true,⟨mkD none [] []⟩,⟨i,0,[],0⟩,t00,[]⟩,0):=by
  unfold cD
  rw [if_neg (by omega),DR,if_neg (fun h=>h rfl),CE]
theorem Gq {i:Nat} (hi:i < 3):dF.s i=⟨true,⟨mkD none [] []⟩,⟨i,0,[],0⟩,t00,[]⟩:=by
  have:dF.s i=(cD i []).1:=by
    have hc:i=0∨i=1∨i=2:=by omega
    rcases hc with rfl | rfl | rfl<;>rfl
  rw [this,Hq hi]
theorem LC {i:Nat} (hi:i < 16):dF.c i=⟨(i:Int)+1,0,[]⟩:=by
  unfold dF AWorld.c
  simp only
  rw [List.getD_eq_getElem?_getD,List.getElem?_map,List.getElem?_eq_getElem (by simpa using hi),List.getElem_range];rfl
theorem Fp (i:Int):UpOk ⟨true,⟨mkD none [] []⟩,⟨i,0,[],0⟩,t00,[]⟩ none 0:=
  ⟨rfl,rfl,Nat.le_refl _,lB,by simp [fF],fun x hx=>(by cases hx),Int.le_refl _,Int.le_refl _,rfl,⟨t00,rfl⟩⟩
theorem WInv.start:WInv dF (fun _=>⟨[],0,0⟩) 0 [] 0:=by
  refine ⟨rfl,rfl,rfl,Pr.start,fun j hj=>?_,fun _ _=>Nat.le_refl _,fun h=>absurd h (show ¬ (0:Int)≤-1 by decide),fun h=>absurd h (show ¬ (0:Int)≤-1 by decide),List.Sublist.refl _,fun i hi=>?_⟩
  · rw [Gq hj]
    exact ⟨rfl,fun _=>⟨none,.inl ⟨rfl,rfl⟩,Fp _,rfl,rfl⟩,fun h=>(by cases h)⟩
  · rw [LC hi]
    exact ⟨rfl,Pr.start.zero⟩
theorem WInv.act {w:AWorld} {g:Nat→Gh} {es:Int} {K:List ATxn} {n:Nat} (h:WInv w g es K n) (hn:n < 1000) (d:ADeed):∃ g' es' K',WInv (mc w d).1 g' es' K' (n+1):=by
  unfold mc
  split
  · obtain ⟨g',K',hh,_⟩:=h.write hn d;exact ⟨g',es,K',hh⟩
  split
  · exact ⟨g,es,K,(h.read d).mono (by omega)⟩
  split
  · obtain ⟨g',es',hh,_⟩:=h.elect hn;exact ⟨g',es',K,hh⟩
  split
  · split
    · exact ⟨g,es,K,h.mono (by omega)⟩
    split
    · exact ⟨g,es,K,(h.up (by omega)).mono (by omega)⟩
    · obtain ⟨g',hh⟩:=h.crash (i:=d.server.toNat) (by omega) d.keep
      exact ⟨g',es,K,hh.mono (by omega)⟩
  · exact ⟨g,es,K,h.mono (by omega)⟩
theorem WInv.does {w:AWorld} {g:Nat→Gh} {es:Int} {K:List ATxn} {n:Nat} (h:WInv w g es K n) (hn:n < 1000) (d:ADeed):∃ g' es' K',WInv (doW w d).1 g' es' K' (n+1):=by
  unfold doW
  split
  · exact ⟨g,es,K,h.mono (by omega)⟩
  · exact (h.deeds (w.deeds+1)).act hn d
def dP (w:AWorld) (l:List ADeed):AWorld:=l.foldl (fun w d=>(doW w d).1) w
theorem WInv.trees {w:AWorld} {g:Nat→Gh} {es:Int} {K:List ATxn} {n:Nat} (h:WInv w g es K n) {j:Nat} (hj:j < 3) :
    0≤(w.s j).peer.done∧(w.s j).peer.done≤(w.s j).peer.log.length∧bB t00 ((w.s j).peer.log.take (w.s j).peer.done.toNat)=some (w.s j).tree∧aJ (w.s j).tree=true:=by
  have hs:=h.sv j hj
  cases hu:(w.s j).up
  · obtain ⟨e,_,hk,_⟩:=hs.2.2 hu
    rw [hk.done,hk.log,hk.tree]
    exact ⟨Int.le_refl _,Int.le_refl _,rfl,kV⟩
  · obtain ⟨e,_,hk,_⟩:=hs.2.1 hu
    exact ⟨hk.d0,hk.dl,hk.tree,mb kV hk.tree⟩
theorem WInv.disks {w:AWorld} {g:Nat→Gh} {es:Int} {K:List ATxn} {n:Nat} (h:WInv w g es K n) {j:Nat} (hj:j < 3) :
    bL (w.s j).disk.files=true∧((w.s j).up=true→(recoverD (w.s j).disk.files).1=(w.s j).peer.log∧(recoverD (w.s j).disk.files).2.2=0∧fK (w.s j).disk.files=(w.s j).peer.epoch):=by
  have hs:=h.sv j hj
  cases hu:(w.s j).up
  · obtain ⟨e,_,hk,_⟩:=hs.2.2 hu
    exact ⟨hk.good,fun h=>(by cases h)⟩
  · obtain ⟨e,he,hk,hlg,hep⟩:=hs.2.1 hu
    refine ⟨hk.good,fun _=>?_⟩
    rw [hk.recovers,hep]
    refine ⟨rfl,rfl,?_⟩
    rw [hk.disk]
    exact he.read (by rw [←List.length_append,eS];exact hk.small)
theorem WInv.order {w:AWorld} {g:Nat→Gh} {es:Int} {K:List ATxn} {n:Nat} (h:WInv w g es K n) :
    List.Pairwise (fun a b:ATxn=>a.zxid < b.zxid) w.done∧(0≤w.leader→w.leader < 3∧w.done.Sublist (w.s w.leader.toNat).peer.log):=by
  obtain ⟨i,_,i1,_,_,i2,_⟩:=h.pr.k1
  have hlog:=h.pr.log i i1
  refine ⟨?_,fun h0=>?_⟩
  · have hp:List.Pairwise (fun a b:ATxn=>a.zxid < b.zxid) (g i).D:=by
      refine List.pairwise_iff_getElem.2 fun a b ha hb hab=>?_
      have:=gc hlog hab hb
      rwa [List.getD_eq_getElem?_getD,List.getElem?_eq_getElem ha,List.getD_eq_getElem?_getD,List.getElem?_eq_getElem hb] at this
    exact hp.sublist (h.ack.trans i2.1.sublist)
  · have hl:=h.pr.ld0 h0
    have hf:=h.lead h0
    have hu:=h.fol h0 _ (by omega) hf.1
    obtain ⟨e,_,hk,hlg,_⟩:=(h.sv _ (by omega)).2.1 hu.1
    rw [hlg]
    exact ⟨hl.1,h.ack.trans (h.pr.k3 h0).sublist⟩
def cR (i:Nat) (keep:Int):ADeed:=⟨3,0,i,default,0,0,keep,false⟩
def gx (i:Nat):ADeed:=⟨4,0,i,default,0,0,0,false⟩
def ba:ADeed:=⟨5,0,0,default,0,0,0,false⟩
theorem Fd {w:AWorld} (hd:w.deeds < 300) {i:Nat} (hi:i < 3) (keep:Int):doW w (cR i keep)=dN { w with deeds:=w.deeds+1 } i keep:=by
  unfold doW mc cR
  rw [if_neg (by omega),if_neg (show ¬ (3:Int)=1 by decide),if_neg (show ¬ (3:Int)=2 by decide),if_neg (show ¬ (3:Int)=5 by decide),if_pos (.inl rfl),if_neg (by simp only;omega),if_neg (show ¬ (3:Int)=4 by decide)];rfl
theorem M3 {w:AWorld} (hd:w.deeds < 300) {i:Nat} (hi:i < 3):doW w (gx i)=upW { w with deeds:=w.deeds+1 } i:=by
  unfold doW mc gx
  rw [if_neg (by omega),if_neg (show ¬ (4:Int)=1 by decide),if_neg (show ¬ (4:Int)=2 by decide),if_neg (show ¬ (4:Int)=5 by decide),if_pos (.inr rfl),if_neg (by simp only;omega),if_pos rfl];rfl
theorem GQ {w:AWorld} (hd:w.deeds < 300):doW w ba=dv { w with deeds:=w.deeds+1 }:=by
  unfold doW mc ba
  rw [if_neg (by omega),if_neg (show ¬ (5:Int)=1 by decide),if_neg (show ¬ (5:Int)=2 by decide),if_pos rfl]
theorem y6 {w:AWorld} {g:Nat→Gh} {es:Int} {K:List ATxn} {n:Nat} (h:WInv w g es K n) {i:Nat} (hi:i < 3) (hu:(w.s i).up=true) {keep:Int} (hk:0≤keep) :
    (dN w i keep).2.code=0∧((dN w i keep).1.s i).up=false∧(∀ j,j≠i→(dN w i keep).1.s j=w.s j)∧(dN w i keep).1.done=w.done∧(dN w i keep).1.deeds=w.deeds:=by
  obtain ⟨e,_,hku,_⟩:=(h.sv i hi).2.1 hu
  obtain ⟨k,_,_,k3,k4,_⟩:=hku.crash hk
  have hsl:=h.sl
  have hs:∀ j,(w.setS i (bw (w.s i) keep).1).s j=if j=i then (bw (w.s i) keep).1 else w.s j:=fun j=>dO (by omega) _ j
  unfold dN
  rw [if_neg (by rw [hu];decide),if_neg (fun h=>h k3)]
  have hs2:∀ j,((if w.leader=i then ((w.setS i (bw (w.s i) keep).1).setF i false).resign else (w.setS i (bw (w.s i) keep).1).setF i false):AWorld).s j=(w.setS i (bw (w.s i) keep).1).s j:=fun j=>by split<;>rfl
  refine ⟨rfl,?_,fun j hj=>?_,?_,?_⟩
  · simp only;rw [hs2,hs,if_pos rfl];exact k4.up
  · simp only;rw [hs2,hs,if_neg hj]
  · simp only;split<;>rfl
  · simp only;split<;>rfl
theorem IU {w:AWorld} {g:Nat→Gh} {es:Int} {K:List ATxn} {n:Nat} (h:WInv w g es K n) {i:Nat} (hi:i < 3) (hu:(w.s i).up=false) :
    (upW w i).2.code=0∧((upW w i).1.s i).up=true∧((upW w i).1.s i).peer.done=0∧(∀ j,j≠i→(upW w i).1.s j=w.s j)∧(upW w i).1.done=w.done∧(upW w i).1.deeds=w.deeds:=by
  obtain ⟨b1,b2,b3,b4,b5⟩:=By (h.sv i hi) hu hi
  have hsl:=h.sl
  have hs:∀ j,(w.setS i (cD i (w.s i).disk.files).1).s j=if j=i then (cD i (w.s i).disk.files).1 else w.s j:=fun j=>dO (by omega) _ j
  unfold upW
  rw [if_neg (by rw [hu];decide),if_neg (fun h=>h b1)]
  refine ⟨rfl,?_,?_,fun j hj=>?_,rfl,rfl⟩
  · rw [hs,if_pos rfl];exact b3
  · rw [hs,if_pos rfl];exact b4
  · rw [hs,if_neg hj]
def eI (keep:Int):List Nat→AWorld→AWorld×Bool
  | [],w=>(w,true)
  | i::r,w=>if (w.s i).up=true then (if (doW w (cR i keep)).2.code=0 then eI keep r (doW w (cR i keep)).1 else ((doW w (cR i keep)).1,false)) else eI keep r w
def kE:List Nat→AWorld→AWorld×Bool
  | [],w=>(w,true)
  | i::r,w=>if (w.s i).up=false then (if (doW w (gx i)).2.code=0 then kE r (doW w (gx i)).1 else ((doW w (gx i)).1,false)) else kE r w
theorem rP {keep:Int} (hk:0≤keep):∀ (r:List Nat) {w:AWorld} {g:Nat→Gh} {es:Int} {K:List ATxn} {n:Nat},WInv w g es K n→(∀ i,i∈r→i < 3)→w.deeds+r.length≤300→
    ∃ g',WInv (eI keep r w).1 g' es K n∧(eI keep r w).2=true∧(∀ j,j∈r∨(w.s j).up=false→((eI keep r w).1.s j).up=false)∧(eI keep r w).1.done=w.done∧(eI keep r w).1.deeds≤w.deeds+r.length
  | [],w,g,es,K,n,h,_,_=>⟨g,h,rfl,fun j hj=>hj.elim (fun h=>by cases h) id,rfl,by show w.deeds≤w.deeds+_;simp⟩
  | i :: r,w,g,es,K,n,h,hr,hd=>by
    rw [List.length_cons] at hd ⊢
    have hi:=hr i (List.mem_cons_self ..)
    have hr2:∀ j,j∈r→j < 3:=fun j hj=>hr j (List.mem_cons_of_mem _ hj)
    rw [eI]
    by_cases hu:(w.s i).up=true
    · rw [if_pos hu,Fd (by omega) hi]
      obtain ⟨c1,c2,c3,c4,c5⟩:=y6 (h.deeds (w.deeds+1)) hi hu hk
      obtain ⟨g1,h1⟩:=(h.deeds (w.deeds+1)).crash hi keep
      rw [if_pos c1]
      generalize (dN { w with deeds:=w.deeds+1 } i keep).1=v at c2 c3 c4 c5 h1 ⊢
      change v.done=w.done at c4
      change v.deeds=w.deeds+1 at c5
      obtain ⟨g2,q1,q2,q3,q4,q5⟩:=rP hk r h1 hr2 (by omega)
      refine ⟨g2,q1,q2,fun j hj=>q3 j ?_,by rw [q4,c4],by omega⟩
      by_cases e:j=i
      · subst e;exact .inr c2
      · rcases hj with hj | hj
        · exact .inl ((List.mem_cons.1 hj).resolve_left e)
        · right;rw [c3 j e];exact hj
    · rw [if_neg hu]
      obtain ⟨g2,q1,q2,q3,q4,q5⟩:=rP hk r h hr2 (by omega)
      refine ⟨g2,q1,q2,fun j hj=>q3 j ?_,q4,by omega⟩
      rcases hj with hj | hj
      · rcases List.mem_cons.1 hj with rfl | hj
        · exact .inr (by simpa using hu)
        · exact .inl hj
      · exact .inr hj
theorem AS:∀ (r:List Nat) {w:AWorld} {g:Nat→Gh} {es:Int} {K:List ATxn} {n:Nat},WInv w g es K n→(∀ i,i∈r→i < 3)→w.deeds+r.length≤300→
    WInv (kE r w).1 g es K n∧(kE r w).2=true∧(∀ j,j∈r∨(w.s j).up=true→((kE r w).1.s j).up=true)∧(∀ j,(w.s j).peer.done=0→((kE r w).1.s j).peer.done=0)∧(kE r w).1.done=w.done∧(kE r w).1.deeds≤w.deeds+r.length
  | [],w,g,es,K,n,h,_,_=>⟨h,rfl,fun j hj=>hj.elim (fun h=>by cases h) id,fun _ h=>h,rfl,by show w.deeds≤w.deeds+_;simp⟩
  | i :: r,w,g,es,K,n,h,hr,hd=>by
    rw [List.length_cons] at hd ⊢
    have hi:=hr i (List.mem_cons_self ..)
    have hr2:∀ j,j∈r→j < 3:=fun j hj=>hr j (List.mem_cons_of_mem _ hj)
    rw [kE]
    by_cases hu:(w.s i).up=false
    · rw [if_pos hu,M3 (by omega) hi]
      obtain ⟨c1,c2,c3,c4,c5,c6⟩:=IU (h.deeds (w.deeds+1)) hi hu
      have h1:=(h.deeds (w.deeds+1)).up hi
      rw [if_pos c1]
      generalize (upW { w with deeds:=w.deeds+1 } i).1=v at c2 c3 c4 c5 c6 h1 ⊢
      change v.done=w.done at c5
      change v.deeds=w.deeds+1 at c6
      obtain ⟨q1,q2,q3,q4,q5,q6⟩:=AS r h1 hr2 (by omega)
      refine ⟨q1,q2,fun j hj=>q3 j ?_,fun j hj=>q4 j ?_,by rw [q5,c5],by omega⟩
      · by_cases e:j=i
        · subst e;exact .inr c2
        · rcases hj with hj | hj
          · exact .inl ((List.mem_cons.1 hj).resolve_left e)
          · right;rw [c4 j e];exact hj
      · by_cases e:j=i
        · subst e;exact c3
        · rw [c4 j e];exact hj
    · rw [if_neg hu]
      obtain ⟨q1,q2,q3,q4,q5,q6⟩:=AS r h hr2 (by omega)
      refine ⟨q1,q2,fun j hj=>q3 j ?_,q4,q5,by omega⟩
      rcases hj with hj | hj
      · rcases List.mem_cons.1 hj with rfl | hj
        · exact .inr (by simpa using hu)
        · exact .inl hj
      · exact .inr hj
theorem Cq {w:AWorld} (h:w.sv.length=3) (hu:∀ j,j < 3→(w.s j).up=true):(bI w).length=3:=by
  unfold bI
  rw [vS h,List.length_map,List.filter_cons_of_pos (hu 0 (by decide)),List.filter_cons_of_pos (hu 1 (by decide)),List.filter_cons_of_pos (hu 2 (by decide))];rfl
theorem WInv.kept {w:AWorld} {g:Nat→Gh} {es:Int} {K:List ATxn} {n:Nat} (h:WInv w g es K n) (hn:n < 1000) (hd:w.deeds≤290) {keep:Int} (hk:0≤keep) {a b:AWorld×Bool} {e:AWorld×AReply} (ha:a=eI keep [0,1,2] w) (hb:b=kE [0,1,2] a.1) (he:e=doW b.1 ba) :
    a.2=true∧b.2=true∧e.2.code=0∧0≤e.1.leader∧e.1.leader < 3∧e.1.done=w.done∧
      ∀ j,j < 3→w.done.Sublist (e.1.s j).peer.log∧(e.1.s j).peer.done=(e.1.s j).peer.log.length∧(e.1.s j).peer.log=(e.1.s e.1.leader.toNat).peer.log:=by
  have hin:∀ j,j < 3→j∈[0,1,2]:=fun j hj=>by
    have:j=0∨j=1∨j=2:=by omega
    rcases this with rfl | rfl | rfl<;>simp
  have hin2:∀ j,j∈[0,1,2]→j < 3:=fun j hj=>by simp at hj;omega
  obtain ⟨g1,a1,a2,a3,a4,a5⟩:=rP hk [0,1,2] h hin2 (by simp only [List.length_cons,List.length_nil];omega)
  rw [←ha] at a1 a2 a3 a4 a5
  simp only [List.length_cons,List.length_nil] at a5
  obtain ⟨b1,b2,b3,b4,b5,b6⟩:=AS [0,1,2] a1 hin2 (by simp only [List.length_cons,List.length_nil];omega)
  rw [←hb] at b1 b2 b3 b4 b5 b6
  simp only [List.length_cons,List.length_nil] at b6
  have hup:∀ j,j < 3→(b.1.s j).up=true:=fun j hj=>b3 j (.inl (hin j hj))
  have hd0:∀ j,j < 3→(b.1.s j).peer.done=0:=fun j hj=>b4 j (by
    obtain ⟨e,_,hk,_⟩:=(a1.sv j hj).2.2 (a3 j (.inl (hin j hj)))
    exact hk.done)
  rw [GQ (by omega)] at he
  obtain ⟨g2,es2,e1,e2,e3,e4,e5,e6⟩:=(b1.deeds (b.1.deeds+1)).elect hn
  rw [←he] at e1 e2 e3 e4 e5 e6
  have hcode:=e6 (by
    have:=Cq (w:={ b.1 with deeds:=b.1.deeds+1 }) b1.sl hup
    exact Nat.le_trans (by decide:2≤3) (Nat.le_of_eq this.symm)) hd0
  obtain ⟨f1,f2⟩:=e5 hcode
  have hl:=(e1.pr.ld0 f1).1
  have hlog:∀ j,j < 3→(e.1.s j).peer.log=(g2 j).D:=fun j hj=>by
    obtain ⟨_,_,_,q,_⟩:=(e1.sv j hj).2.1 (by rw [e4];exact hup j hj)
    exact q
  have hall:∀ j,j < 3→(g2 j).D=(g2 e.1.leader.toNat).D:=fun j hj=>(e1.fol f1 j hj (f2 j hj (hup j hj)).1).2
  have hdone:e.1.done=w.done:=by
    rw [e2];show b.1.done=w.done;rw [b5,a4]
  refine ⟨a2,b2,hcode,f1,hl,hdone,fun j hj=>⟨?_,?_,?_⟩⟩
  · rw [hlog j hj,hall j hj,←hdone]
    exact e1.ack.trans (e1.pr.k3 f1).sublist
  · rw [hlog j hj];exact (f2 j hj (hup j hj)).2
  · rw [hlog j hj,hlog _ (by omega)];exact hall j hj
theorem cB {z:Int} (h0:0≤z) (h1:z < 9223372036854775808):okI z:=by unfold okI;omega
theorem jC {t:ATree} (hg:aJ t=true):okT t∧t.nodes.length≤400∧t.sessions.length≤2147483647∧∀ n,n∈t.nodes→n.path.length≤200∧n.data.length≤256:=by
  obtain ⟨p1,p2⟩:=wm hg
  obtain ⟨h1,h2,_,_⟩:=bt.1 hg
  obtain ⟨_,h3⟩:=kH.1 h2
  have hz:=h1.2.2.2.2
  unfold bV at hz
  have hl:=ri hg
  have hn:∀ n,n∈t.nodes→n.path.length≤200∧n.data.length≤256:=fun n hn=>⟨(ji (p1.good _ (List.mem_map_of_mem hn))).2.2.1,(p2 n hn).data⟩
  refine ⟨⟨⟨cB hz.1 (by omega),⟨by have:=h1.2.1;omega,fun n hm=>?_⟩,⟨by omega,fun s hs=>?_⟩⟩,fun n hm=>by have:=(hn n hm).1;omega⟩,h1.2.1,hl,hn⟩
  · have hk:=p2 n hm
    have hs:=hn n hm
    obtain ⟨z1,z2,z3,z4,z5⟩:=hk.zs
    have hkl:=sE (aM t) n.path
    have hl4:=p1.len
    have hkk:=hk.kids
    refine ⟨by unfold okS;omega,by unfold okS;omega,cB z1 (by omega),cB (by omega) (by omega),cB (by omega) (by omega),cB hk.v.1 (by have:=hk.v.2;omega),cB hk.cv.1 (by have:=hk.cv.2;omega),?_,cB (by omega) (by omega)⟩
    by_cases ho:n.stat.owner=0
    · rw [ho];exact cB (by decide) (by decide)
    · have:=h3 _ (hk.own ho).1
      exact cB (by omega) (by omega)
  · have:=h3 s hs
    exact cB (by omega) (by omega)
theorem H1 {x:ATxn} (h:aO x=0):x.wf∧x.path.length≤200:=by
  obtain ⟨g1,g2,g3,g4,g5,g6,g7⟩:=fh h
  exact ⟨⟨cB g1.1 g1.2,cB (by omega) (by omega),cB (by omega) (by omega),by unfold okS;omega,by unfold okS;omega,cB (by omega) (by omega),cB (by omega) (by omega)⟩,g6⟩
theorem Hd {e:Option (List UInt8)} {s t:List UInt8} (h:okD e s t):ADisk.wf ⟨mkD e s t⟩:=by
  have hn1:okS epN:=by unfold okS;decide
  have hn2:okS logN:=by unfold okS;decide
  have h0:okS []:=by unfold okS;decide
  have h2:=h.2
  cases e with
  | none=>exact ⟨by simp [mkD],fun f hf=>by rw [List.mem_singleton.1 hf];exact ⟨hn2,by show s.length≤_;omega,by show t.length≤_;omega⟩⟩
  | some x=>
    have:=h.1 x rfl
    refine ⟨by simp [mkD],fun f hf=>?_⟩
    rcases List.mem_cons.1 hf with e | e
    · rw [e];exact ⟨hn1,by show x.length≤_;omega,h0⟩
    · rw [List.mem_singleton.1 e];exact ⟨hn2,by show s.length≤_;omega,by show t.length≤_;omega⟩
def eM (l:List AWatch):Prop:=l.length≤400∧∀ x,x∈l→x.wf∧x.path.length≤200
theorem eM.sub {l m:List AWatch} (h:eM l) (hs:m.Sublist l):eM m:=⟨Nat.le_trans hs.length_le h.1,fun x hx=>h.2 x (hs.subset hx)⟩
theorem eM.nil:eM []:=⟨Nat.zero_le _,fun x hx=>by cases hx⟩
theorem eM.add {l:List AWatch} (h:eM l) {x:AWatch} (hx:(ka l x).2=0):eM (ka l x).1:=by
  unfold ka at hx ⊢
  split
  · exact eM.nil
  rename_i h1
  rw [if_neg h1] at hx
  split
  · exact eM.nil
  rename_i h2
  rw [if_neg h2] at hx
  split
  · exact eM.nil
  rename_i h3
  rw [if_neg h3] at hx
  split
  · exact h
  rename_i h4
  rw [if_neg h4] at hx
  split
  · exact eM.nil
  rename_i h5
  have hp:=(ji (Classical.not_not.1 h2)).2.2.1
  refine ⟨by simp only [List.length_append,List.length_singleton];omega,fun y hy=>?_⟩
  rcases List.mem_append.1 hy with e | e
  · exact h.2 y e
  · rw [List.mem_singleton.1 e]
    exact ⟨⟨cB (by omega) (by omega),cB (by omega) (by omega),by unfold okS;omega⟩,hp⟩
theorem sR:∀ (es:List AEvent) (p:List ANote×List AWatch),(es.foldl mj p).2.Sublist p.2
  | [],p=>List.Sublist.refl _
  | e::es,p=>(sR es (mj p e)).trans (by unfold mj keptW;exact List.filter_sublist)
theorem wH:∀ (X:List ATxn) (p:CSt),(jg X p).1.w.Sublist p.w
  | [],p=>List.Sublist.refl _
  | x :: X,p=>by
    rw [jg]
    split
    · refine (wH X _).trans ?_
      unfold kw
      simp only
      split
      · exact List.filter_sublist.trans (sR _ _)
      · exact sR _ _
    · exact List.Sublist.refl _
theorem commit_sub (s:AServer) (n:Int):(aC s n).1.watches.Sublist s.watches:=by
  unfold aC
  split
  · exact List.nil_sublist _
  · simp only
    split
    · exact wH _ _
    · exact List.nil_sublist _
theorem ia.wf {s:AServer} {g:Gh} {j n:Nat} (h:ia s g j) (hj:j < 3) (hn:g.D.length≤n) (hn2:n < 100000) (hE:0≤g.E∧g.E≤n) (hw:eM s.watches):s.wf∧okT s.tree∧aJ s.tree=true∧∀ x,x∈s.peer.log→x.wf∧x.path.length≤200:=by
  obtain ⟨hid,h1,h2⟩:=h
  have hwl:=hw.1
  have hww:s.watches.length*32≤140737488351232∧∀ y:AWatch,y∈s.watches→y.wf:=⟨by omega,fun y hy=>(hw.2 y hy).1⟩
  have hidk:okI s.peer.id:=by rw [hid];exact cB (by omega) (by omega)
  cases hu:s.up
  · obtain ⟨e,_,hk,_⟩:=h2 hu
    obtain ⟨c,c1,c2,_⟩:=hk.disk
    have hg:aJ s.tree=true:=by rw [hk.tree];exact kV
    have hdw:s.disk.wf:=by
      have:=Hd (e:=e) (s:=c) (t:=[]) ⟨hk.elen,by simpa using c2⟩
      unfold ADisk.wf at this ⊢
      rw [c1];exact this
    refine ⟨⟨trivial,hdw,⟨hidk,by rw [hk.ep];exact cB (by decide) (by decide),⟨by rw [hk.log];simp,fun x hm=>by rw [hk.log] at hm;cases hm⟩,by rw [hk.done];exact cB (by decide) (by decide)⟩,(jC hg).1.1,hww⟩,(jC hg).1,hg,fun x hm=>by rw [hk.log] at hm;cases hm⟩
  · obtain ⟨e,_,hk,hlg,hep⟩:=h1 hu
    have hg:aJ s.tree=true:=mb kV hk.tree
    have hdw:s.disk.wf:=by
      have:=Hd hk.okD
      unfold ADisk.wf at this ⊢
      rw [hk.disk];exact this
    have hx:∀ x,x∈s.peer.log→x.wf∧x.path.length≤200:=fun x hx=>H1 (hk.log.2 x hx)
    have hd0:=hk.d0
    have hdl:=hk.dl
    rw [hlg] at hdl
    exact ⟨⟨trivial,hdw,⟨hidk,by rw [hep];exact cB hE.1 (by omega),⟨by rw [hlg];omega,fun x hm=>(hx x hm).1⟩,cB hd0 (by omega)⟩,(jC hg).1.1,hww⟩,(jC hg).1,hg,hx⟩
def cP (w:AWorld):Prop:=∀ j,eM (w.s j).watches
theorem H3 (w:AWorld) (i:Nat) (s:AServer) (j:Nat):(w.setS i s).s j=s∨(w.setS i s).s j=w.s j:=by
  by_cases h:i < w.sv.length
  · rw [dO h]
    split
    · exact .inl rfl
    · exact .inr rfl
  · right
    unfold AWorld.setS AWorld.s
    simp only
    rw [List.set_eq_of_length_le (by omega)]
theorem cP.set {w:AWorld} (h:cP w) {s:AServer} (hs:eM s.watches) (i:Nat):cP (w.setS i s):=fun j=>by
  rcases H3 w i s j with e | e
  · rw [e];exact hs
  · rw [e];exact h j
theorem take_sub (s:AServer) (x:ATxn) (safe:Bool):(bo s x safe).1.watches.Sublist s.watches:=by
  unfold bo
  split
  · exact List.nil_sublist _
  · split
    · exact List.Sublist.refl _
    · exact List.nil_sublist _
theorem uQ:∀ (r:List ATxn) (s:AServer),(eF s r).1.watches.Sublist s.watches
  | [],s=>List.Sublist.refl _
  | x::r,s=>by
    rw [eF]
    split
    · exact (uQ r _).trans (take_sub s x true)
    · exact List.nil_sublist _
theorem mH (s:AServer) (l:List ATxn) (ep:Int):(aI s l ep).1.watches.Sublist s.watches:=by
  unfold aI
  split
  · exact List.nil_sublist _
  split
  · exact List.nil_sublist _
  split
  · exact List.nil_sublist _
  exact uQ _ _
theorem crash_sub (s:AServer) (keep:Int):(bw s keep).1.watches=[]:=by
  unfold bw
  split<;>rfl
theorem boot_sub (i:Int) (l:List AFile):(cD i l).1.watches=[]:=by
  unfold cD
  split
  · rfl
  split<;>rfl
theorem m6 {l:List ATxn} {ep:Int}:∀ (r:List Nat) {w:AWorld} {ns:List ANote},cP w→cP (bM l ep r w ns).1
  | [],w,ns,h=>h
  | i::r,w,ns,h=>by
    rw [bM]
    split
    · exact m6 r h
    split
    · exact h
    split
    · exact h
    refine m6 r ?_
    have:eM (aC (aI (w.s i) l ep).1 l.length).1.watches:=((h i).sub (mH _ _ _)).sub (commit_sub _ _)
    exact h.set this i
theorem lS {x:ATxn} {lead lost slow:Int}:∀ (r:List Nat) {w:AWorld} {hv:List Nat},cP w→cP (bW x lead lost slow r w hv).1
  | [],w,hv,h=>h
  | i::r,w,hv,h=>by
    rw [bW]
    split
    · exact lS r h
    split
    · exact lS r (w:=w.setF i false) h
    split
    · exact h
    exact lS r (h.set ((h i).sub (take_sub _ _ _)) i)
theorem pS:∀ (r:List Nat) {w:AWorld} {ns:List ANote},cP w→cP (bq r w ns).1
  | [],w,ns,h=>h
  | i::r,w,ns,h=>by
    rw [bq]
    split
    · exact h
    exact pS r (h.set ((h i).sub (commit_sub _ _)) i)
theorem cP.act {w:AWorld} (h:cP w) (d:ADeed):cP (mc w d).1:=by
  unfold mc
  split
  · unfold da
    split
    · exact h
    split
    · exact h
    split
    · exact h
    simp only
    split
    · exact h
    have ht:=lS (x:=(cF (w.s w.leader.toNat).tree (dG (w.s w.leader.toNat).peer).1 (mv w d)).1) (lead:=w.leader) (lost:=d.lost) (slow:=d.slow) [0,1,2] (hv:=[]) h
    generalize bW _ _ _ _ _ _ _=R at ht ⊢
    split
    · exact ht
    split
    · exact ht
    unfold jF
    simp only
    have hc:=pS R.2.1 (ns:=[]) ht
    generalize bq _ _ _=Q at hc ⊢
    split
    · exact hc
    split
    · exact hc
    · exact hc
  split
  · unfold gV
    split
    · exact h
    simp only
    split
    · exact h
    split
    · exact h
    split
    · split
      · exact h
      · rename_i ha
        refine cP.set (w:=w) h ?_ d.server.toNat
        exact (h d.server.toNat).add (Classical.not_not.1 ha)
    · exact h
  split
  · unfold dv
    split
    · exact h
    simp only
    have ht:=m6 (l:=((bI w).getD (cd (bI w)).1.toNat default).log) (ep:=(cd (bI w)).2.1) [0,1,2] (w:=w.resign) (ns:=[]) h
    generalize bM _ _ _ _ _=R at ht ⊢
    split
    · exact ht
    · exact ht
  split
  · split
    · exact h
    split
    · unfold upW
      split
      · exact h
      split
      · exact h
      exact h.set (by rw [boot_sub];exact eM.nil) _
    · unfold dN
      split
      · exact h
      split
      · exact h
      have hs:cP (w.setS d.server.toNat (bw (w.s d.server.toNat) d.keep).1):=h.set (by rw [crash_sub];exact eM.nil) _
      simp only
      split
      · exact hs
      · exact hs
  · exact h
theorem cP.does {w:AWorld} (h:cP w) (d:ADeed):cP (doW w d).1:=by
  unfold doW
  split
  · exact h
  · exact cP.act (w:={ w with deeds:=w.deeds+1 }) h d
theorem cP.start:cP dF:=fun j=>by
  by_cases h:j < 3
  · rw [Gq h];exact eM.nil
  · have:dF.s j=default:=by
      unfold AWorld.s
      rw [List.getD_eq_getElem?_getD,List.getElem?_eq_none (by show 3≤j;omega)];rfl
    rw [this];exact eM.nil
end Go.Proofs.YtjcooccnfkfjhaaGreatDoor
