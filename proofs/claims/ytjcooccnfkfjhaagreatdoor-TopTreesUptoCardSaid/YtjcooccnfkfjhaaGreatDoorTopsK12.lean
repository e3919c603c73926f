/- A part of what Tops leans on: texts of this claim, one behind the other. No condition. -/
import Derived.Test.YtjcooccnfkfjhaaGreatDoorTopsK11
namespace Go.Proofs.YtjcooccnfkfjhaaGreatDoor
set_option linter.unusedVariables false
set_option linter.unusedSimpArgs false
open Go Go.RowKit
set_option maxRecDepth 100000
theorem jK {l:List ATxn} {ep:Int}:∀ (r:List Nat) (w:AWorld) (ns:List ANote),(bM l ep r w ns).1.deeds=w.deeds
  | [],w,ns=>rfl
  | i::r,w,ns=>by
    rw [bM]
    split
    · exact jK r w ns
    split
    · rfl
    split
    · rfl
    rw [jK r];rfl
theorem iQ {x:ATxn} {lead lost slow:Int}:∀ (r:List Nat) (w:AWorld) (hv:List Nat),(bW x lead lost slow r w hv).1.deeds=w.deeds
  | [],w,hv=>rfl
  | i::r,w,hv=>by
    rw [bW]
    split
    · exact iQ r w hv
    split
    · rw [iQ r];rfl
    split
    · rfl
    rw [iQ r];rfl
theorem mz:∀ (r:List Nat) (w:AWorld) (ns:List ANote),(bq r w ns).1.deeds=w.deeds
  | [],w,ns=>rfl
  | i::r,w,ns=>by
    rw [bq]
    split
    · rfl
    rw [mz r];rfl
theorem CM (w:AWorld) (d:ADeed):(mc w d).1.deeds=w.deeds:=by
  unfold mc
  split
  · unfold da
    split
    · rfl
    split
    · rfl
    split
    · rfl
    simp only
    split
    · rfl
    have ht:=iQ (x:=(cF (w.s w.leader.toNat).tree (dG (w.s w.leader.toNat).peer).1 (mv w d)).1) (lead:=w.leader) (lost:=d.lost) (slow:=d.slow) [0,1,2] w []
    generalize bW _ _ _ _ _ _ _=R at ht ⊢
    split
    · exact ht
    split
    · exact ht
    unfold jF
    simp only
    have hc:=mz R.2.1 R.1 []
    generalize bq _ _ _=Q at hc ⊢
    split
    · exact hc.trans ht
    split
    · exact hc.trans ht
    · exact hc.trans ht
  split
  · unfold gV
    split
    · rfl
    simp only
    split
    · rfl
    split
    · rfl
    split
    · split
      · rfl
      · rfl
    · rfl
  split
  · unfold dv
    split
    · rfl
    simp only
    have ht:=jK (l:=((bI w).getD (cd (bI w)).1.toNat default).log) (ep:=(cd (bI w)).2.1) [0,1,2] w.resign []
    generalize bM _ _ _ _ _=R at ht ⊢
    split
    · exact ht
    · exact ht
  split
  · split
    · rfl
    split
    · unfold upW
      split
      · rfl
      split
      · rfl
      · rfl
    · unfold dN
      split
      · rfl
      split
      · rfl
      simp only
      split
      · rfl
      · rfl
  · rfl
theorem wP {w:AWorld} (h:w.deeds < 300) (d:ADeed):(doW w d).1.deeds=w.deeds+1:=by
  unfold doW
  rw [if_neg (by omega),CM]
theorem B8 {w:AWorld} (h:300≤w.deeds) (d:ADeed):doW w d=(w,noR 6):=by
  unfold doW;rw [if_pos h]
def sa:ADeed:=⟨0,0,0,default,0,0,0,false⟩
theorem KH {w:AWorld} (h:w.deeds < 300):doW w sa=({ w with deeds:=w.deeds+1 },noR 4):=by
  unfold doW mc sa
  rw [if_neg (by omega),if_neg (show ¬ (0:Int)=1 by decide),if_neg (show ¬ (0:Int)=2 by decide),if_neg (show ¬ (0:Int)=5 by decide),if_neg (show ¬ ((0:Int)=3∨(0:Int)=4) by decide)]
def fy (who server:Nat) (p:List UInt8):ADeed:=⟨2,who,server,⟨0,0,p,[],0,0⟩,0,0,0,false⟩
theorem Kj {w:AWorld} (h:w.deeds < 300) {who server:Nat} (h1:who < 16) (h2:server < 3) (hcl:w.cl.length=16) (p:List UInt8) {u:AWorld} {r:AReply} (he:doW w (fy who server p)=(u,r)) :
    (∀ j,u.s j=w.s j)∧(∀ i,i≠who→u.c i=w.c i)∧((w.s server).up=false→r.code=14)∧((w.s server).up=true→(w.s server).tree.zxid < (w.c who).seen→r.code=15)∧
      ((w.s server).up=true→¬ (w.s server).tree.zxid < (w.c who).seen→r.code=(aP (w.s server).tree p).2∧r.data=(aP (w.s server).tree p).1.data∧r.stat=(aP (w.s server).tree p).1.stat∧(u.c who).seen=(w.s server).tree.zxid∧(u.c who).cache=(w.c who).cache):=by
  have hd:doW w (fy who server p)=gV { w with deeds:=w.deeds+1 } (fy who server p):=by
    unfold doW mc
    rw [if_neg (by omega),if_neg (show ¬ (fy who server p).kind=1 from (by decide:¬ (2:Int)=1)),if_pos (show (fy who server p).kind=2 from rfl)]
  rw [hd] at he
  have hr:gV { w with deeds:=w.deeds+1 } (fy who server p)=if (w.s server).up=false then ({ w with deeds:=w.deeds+1 },noR 14) else if (eW (w.c who) (w.s server).tree.zxid).2≠0 then ({ w with deeds:=w.deeds+1 },noR (eW (w.c who) (w.s server).tree.zxid).2) else
      (({ w with deeds:=w.deeds+1 }:AWorld).setC who (eW (w.c who) (w.s server).tree.zxid).1,⟨(aP (w.s server).tree p).2,(w.s server).tree.zxid,(aP (w.s server).tree p).1.path,(aP (w.s server).tree p).1.data,(aP (w.s server).tree p).1.stat,[]⟩):=by
    unfold gV
    rw [if_neg (by show ¬ ((who:Int) < 0∨16≤(who:Int)∨(server:Int) < 0∨3≤(server:Int));omega)]
    rfl
  rw [hr] at he
  by_cases hu:(w.s server).up=false
  · rw [if_pos hu] at he
    injection he with e1 e2
    subst e1 e2
    exact ⟨fun _=>rfl,fun _ _=>rfl,fun _=>rfl,fun h=>(by rw [hu] at h;cases h),fun h=>(by rw [hu] at h;cases h)⟩
  rw [if_neg hu] at he
  by_cases hs:(w.s server).tree.zxid < (w.c who).seen
  · have hse:eW (w.c who) (w.s server).tree.zxid=(default,15):=by unfold eW;rw [if_pos hs]
    rw [hse,if_pos (show (15:Int)≠0 by decide)] at he
    injection he with e1 e2
    subst e1 e2
    exact ⟨fun _=>rfl,fun _ _=>rfl,fun h=>absurd h hu,fun _ _=>rfl,fun _ h=>absurd hs h⟩
  · have hse:eW (w.c who) (w.s server).tree.zxid=({ w.c who with seen:=(w.s server).tree.zxid },0):=by unfold eW;rw [if_neg hs]
    rw [hse,if_neg (fun h=>h rfl)] at he
    injection he with e1 e2
    subst e1 e2
    have hc:∀ i,(({ w with deeds:=w.deeds+1 }:AWorld).setC who { w.c who with seen:=(w.s server).tree.zxid }).c i=if i=who then { w.c who with seen:=(w.s server).tree.zxid } else w.c i:=fun i=>yW (by show who < w.cl.length;omega) _ i
    refine ⟨fun _=>rfl,fun i hi=>by rw [hc,if_neg hi],fun h=>absurd h hu,fun _ h=>absurd h hs,fun _ _=>⟨rfl,rfl,rfl,?_,?_⟩⟩
    · rw [hc,if_pos rfl]
    · rw [hc,if_pos rfl]
def wN (l log:List ATxn):Nat→Nat
  | 0=>0
  | i+1=>if wN l log i < l.length∧log.getD i default=l.getD (wN l log i) default then wN l log i+1 else wN l log i
theorem GD (l log:List ATxn):∀ i,wN l log i≤l.length
  | 0=>Nat.zero_le _
  | i+1=>by
    rw [wN]
    split
    · omega
    · exact GD l log i
theorem wk (l:List ATxn) {k:Nat} (h:k < l.length):l.drop k=l.getD k default::l.drop (k+1):=by
  rw [List.drop_eq_getElem_cons h,List.getD_eq_getElem?_getD,List.getElem?_eq_getElem h];rfl
theorem HG {l log:List ATxn} (h:l.Sublist log):∀ i,i≤log.length→(l.drop (wN l log i)).Sublist (log.drop i)
  | 0,_=>h
  | i + 1,hi=>by
    have ih:=HG h i (by omega)
    rw [wk log (by omega)] at ih
    rw [wN]
    by_cases hk:wN l log i < l.length
    · rw [wk l hk] at ih
      by_cases e:log.getD i default=l.getD (wN l log i) default
      · rw [if_pos ⟨hk,e⟩]
        rw [e] at ih
        exact List.cons_sublist_cons.1 ih
      · rw [if_neg (fun h=>e h.2),wk l hk]
        generalize log.getD i default=y at ih e
        generalize l.getD (wN l log i) default=x at ih e ⊢
        cases ih with
        | cons _ h=>exact h
        | cons_cons=>exact absurd rfl e
    · rw [if_neg (fun h=>hk h.1),List.drop_eq_nil_of_le (by omega)]
      exact List.nil_sublist _
theorem LJ {l log:List ATxn} (h:l.Sublist log):wN l log log.length=l.length:=by
  have h1:=HG h log.length (Nat.le_refl _)
  rw [List.drop_length] at h1
  have h2:=List.drop_eq_nil_iff.1 (List.sublist_nil.1 h1)
  have:=GD l log log.length
  omega
theorem uo {l:List (List UInt8)}:aY l↔l.Pairwise (fun a b=>a < b):=by
  have gd (j:Nat) (hj:j < l.length):l.getD j []=l[j]:=by rw [List.getD_eq_getElem?_getD,List.getElem?_eq_getElem hj];rfl
  constructor
  · intro h
    refine List.pairwise_iff_getElem.2 fun i j hi hj hij=>?_
    have:=bg h hij hj
    rwa [gd i hi,gd j hj] at this
  · intro h k hk
    rw [gd k (by omega),gd (k+1) hk]
    exact List.pairwise_iff_getElem.1 h k (k+1) (by omega) hk (by omega)
def eJ (l:List AEntry) (n:Nat):Prop:=aY (l.map AEntry.path)∧l.length≤n∧∀ e,e∈l→e.path.length≤200∧e.data.length≤256
theorem eJ.sub {l m:List AEntry} {n:Nat} (h:eJ l n) (hs:m.Sublist l):eJ m n:=
  ⟨uo.2 ((uo.1 h.1).sublist (hs.map _)),Nat.le_trans hs.length_le h.2.1,fun e he=>h.2.2 e (hs.subset he)⟩
theorem eJ.nil (n:Nat):eJ [] n:=⟨fun k hk=>absurd hk (by simp),Nat.zero_le _,fun e he=>by cases he⟩
theorem eJ.mono {l:List AEntry} {n m:Nat} (h:eJ l n) (hm:n≤m):eJ l m:=⟨h.1,Nat.le_trans h.2.1 hm,h.2.2⟩
theorem pp (s:Int):∀ (ns:List ANote) (l:List AEntry),(dU s l ns).Sublist l
  | [],l=>List.Sublist.refl _
  | a::ns,l=>by
    have h:=pp s ns (kx s l a)
    refine (show (dU s l (a::ns)).Sublist (kx s l a) from h).trans ?_
    unfold kx
    split
    · exact List.filter_sublist
    · exact List.Sublist.refl _
theorem wI {e:AEntry} (h:e.path.length≤200∧e.data.length≤256):(normE e).path=e.path∧(normE e).path.length≤200∧(normE e).data.length≤256:=by
  unfold normE
  split
  · exact ⟨rfl,h⟩
  · exact ⟨rfl,h.1,Nat.zero_le _⟩
theorem eJ.keep {l:List AEntry} {n:Nat} (h:eJ l n) {e:AEntry} (he:e.path.length≤200∧e.data.length≤256):eJ (iU l e) (n+1):=by
  obtain ⟨h1,h2,h3⟩:=h
  obtain ⟨e1,e2,e3⟩:=wI he
  unfold iU
  split
  · rename_i hm
    have hf:=ap h1 hm
    have hi:place (l.map AEntry.path) e.path < l.length:=by have:=hf.1;rwa [List.length_map] at this
    refine ⟨?_,by rw [List.length_set];omega,fun x hx=>?_⟩
    · have:(l.set (place (l.map AEntry.path) e.path) (normE e)).map AEntry.path=l.map AEntry.path:=by
        rw [List.map_set,e1]
        apply List.ext_getElem?
        intro j
        rw [List.getElem?_set]
        split
        · rename_i ej;subst ej
          rw [if_pos hf.1]
          have:=hf.2
          rw [List.getD_eq_getElem?_getD,List.getElem?_eq_getElem hf.1] at this
          rw [List.getElem?_eq_getElem hf.1]
          exact congrArg some this.symm
        · rfl
      rw [this];exact h1
    · rcases List.mem_or_eq_of_mem_set hx with hx | hx
      · exact h3 x hx
      · rw [hx];exact ⟨e2,e3⟩
  · rename_i hm
    have hp:=gk (l.map AEntry.path) e.path
    rw [List.length_map] at hp
    refine ⟨?_,by rw [eQ _ _ _ hp];omega,fun x hx=>?_⟩
    · have:(l.insertIdx (place (l.map AEntry.path) e.path) (normE e)).map AEntry.path=(l.map AEntry.path).insertIdx (place (l.map AEntry.path) e.path) e.path:=by
        rw [←jM,e1]
      rw [this];exact oO h1 hm
    · rcases (List.mem_insertIdx hp).1 hx with hx | hx
      · rw [hx];exact ⟨e2,e3⟩
      · exact h3 x hx
theorem o6 {l:List ATxn} {ep:Int}:∀ (r:List Nat) (w:AWorld) (ns:List ANote),(bM l ep r w ns).1.cl=w.cl
  | [],w,ns=>rfl
  | i::r,w,ns=>by
    rw [bM]
    split
    · exact o6 r w ns
    split
    · rfl
    split
    · rfl
    rw [o6 r];rfl
theorem oA {x:ATxn} {lead lost slow:Int}:∀ (r:List Nat) (w:AWorld) (hv:List Nat),(bW x lead lost slow r w hv).1.cl=w.cl
  | [],w,hv=>rfl
  | i::r,w,hv=>by
    rw [bW]
    split
    · exact oA r w hv
    split
    · rw [oA r];rfl
    split
    · rfl
    rw [oA r];rfl
theorem rN:∀ (r:List Nat) (w:AWorld) (ns:List ANote),(bq r w ns).1.cl=w.cl
  | [],w,ns=>rfl
  | i::r,w,ns=>by
    rw [bq]
    split
    · rfl
    rw [rN r];rfl
def bR (l:List AClient) (n:Nat):Prop:=∀ c,c∈l→eJ c.cache n
theorem bR.mono {l:List AClient} {n m:Nat} (h:bR l n) (hm:n≤m):bR l m:=fun c hc=>(h c hc).mono hm
theorem bR.tell {w:AWorld} {n:Nat} (h:bR w.cl n) (ns:List ANote):bR (eA w ns).cl n:=fun c hc=>by
  obtain ⟨c0,h1,rfl⟩:=List.mem_map.1 hc
  exact (h c0 h1).sub (pp _ _ _)
theorem bR.set {l:List AClient} {n:Nat} (h:bR l n) {c:AClient} (hc:eJ c.cache n) (i:Nat):bR (l.set i c) n:=fun x hx=>by
  rcases List.mem_or_eq_of_mem_set hx with hx | hx
  · exact h x hx
  · rw [hx];exact hc
theorem bR.getD {l:List AClient} {n:Nat} (h:bR l n) (i:Nat):eJ (l.getD i default).cache n:=by
  by_cases hi:i < l.length
  · exact h _ (bX l i hi)
  · rw [List.getD_eq_getElem?_getD,List.getElem?_eq_none (by omega)]
    exact eJ.nil n
theorem seeC_cache {c:AClient} {n:Nat} (h:eJ c.cache n) (z:Int):eJ (eW c z).1.cache n:=by
  unfold eW
  split
  · exact eJ.nil n
  · exact h
theorem tree_data {t:ATree} (hg:aJ t=true) (p:List UInt8):(aP t p).1.data.length≤256:=by
  unfold aP
  split
  · rename_i hm
    have hf:=ap (aT hg) hm
    have hpl:=hf.1
    rw [aQ] at hpl
    exact ((jC hg).2.2.2 _ (kI hpl)).2
  · exact Nat.zero_le _
theorem vv {l:List AWatch} {x:AWatch} (h:(ka l x).2=0):x.path.length≤200:=by
  unfold ka at h
  split at h
  · exact absurd h (by decide)
  split at h
  · exact absurd h (by decide)
  rename_i h2
  exact (ji (Classical.not_not.1 h2)).2.2.1
theorem bR.act {w:AWorld} {n:Nat} (h:bR w.cl n) (hg:∀ j,j < 3→aJ (w.s j).tree=true) (d:ADeed):bR (mc w d).1.cl (n+1):=by
  have h1:bR w.cl (n+1):=h.mono (by omega)
  unfold mc
  split
  · unfold da
    split
    · exact h1
    split
    · exact h1
    split
    · exact h1
    simp only
    split
    · exact h1
    have ht:=oA (x:=(cF (w.s w.leader.toNat).tree (dG (w.s w.leader.toNat).peer).1 (mv w d)).1) (lead:=w.leader) (lost:=d.lost) (slow:=d.slow) [0,1,2] w []
    generalize bW _ _ _ _ _ _ _=R at ht ⊢
    split
    · simp only;rw [ht];exact h1
    split
    · show bR R.1.cl (n+1);rw [ht];exact h1
    unfold jF
    simp only
    have hc:=rN R.2.1 R.1 []
    generalize bq _ _ _=Q at hc ⊢
    have hq:bR Q.1.cl (n+1):=by rw [hc,ht];exact h1
    split
    · exact hq
    have hu:bR (eA { Q.1 with done:=Q.1.done++[(cF (w.s w.leader.toNat).tree (dG (w.s w.leader.toNat).peer).1 (mv w d)).1] } Q.2.1).cl (n+1):=bR.tell (w:={ Q.1 with done:=Q.1.done++[(cF (w.s w.leader.toNat).tree (dG (w.s w.leader.toNat).peer).1 (mv w d)).1] }) hq _
    split
    · exact hu
    · exact hu.set (seeC_cache (hu.getD d.client.toNat) _) _
  split
  · unfold gV
    split
    · exact h1
    rename_i hd
    simp only
    split
    · exact h1
    split
    · exact h1
    have hs:=seeC_cache (h.getD d.client.toNat) (w.s d.server.toNat).tree.zxid
    split
    · split
      · exact h1
      · rename_i ha
        have hp:=vv (Classical.not_not.1 ha)
        exact h1.set (hs.keep ⟨hp,tree_data (hg _ (by omega)) _⟩) _
    · exact h1.set (hs.mono (by omega)) _
  split
  · unfold dv
    split
    · exact h1
    simp only
    have ht:=o6 (l:=((bI w).getD (cd (bI w)).1.toNat default).log) (ep:=(cd (bI w)).2.1) [0,1,2] w.resign []
    generalize bM _ _ _ _ _=R at ht ⊢
    have hR:bR R.1.cl (n+1):=by rw [ht];exact h1
    split
    · exact hR
    · exact bR.tell (w:={ R.1 with leader:=((bI w).getD (cd (bI w)).1.toNat default).id }) hR _
  split
  · split
    · exact h1
    split
    · unfold upW
      split
      · exact h1
      split
      · exact h1
      · exact h1
    · unfold dN
      split
      · exact h1
      split
      · exact h1
      simp only
      split
      · exact h1
      · exact h1
  · exact h1
theorem bR.does {w:AWorld} {n:Nat} (h:bR w.cl n) (hg:∀ j,j < 3→aJ (w.s j).tree=true) (d:ADeed):bR (doW w d).1.cl (n+1):=by
  unfold doW
  split
  · exact h.mono (by omega)
  · exact bR.act (w:={ w with deeds:=w.deeds+1 }) h hg d
theorem bR.start:bR dF.cl 0:=fun c hc=>by
  obtain ⟨i,_,rfl⟩:=List.mem_map.1 hc
  exact eJ.nil 0
def bH (w:AWorld) (n:Nat):Prop:=(∃ g es K,WInv w g es K n)∧cP w∧bR w.cl n
theorem bH.start:bH dF 0:=⟨⟨_,_,_,WInv.start⟩,cP.start,bR.start⟩
theorem bH.does {w:AWorld} {n:Nat} (h:bH w n) (hn:n < 1000) (d:ADeed):bH (doW w d).1 (n+1):=by
  obtain ⟨⟨g,es,K,h1⟩,h2,h3⟩:=h
  exact ⟨h1.does hn d,h2.does d,h3.does (fun j hj=>(h1.trees hj).2.2.2) d⟩
theorem bH.server {w:AWorld} {n:Nat} (h:bH w n) (hn:n < 1000) {j:Nat} (hj:j < 3):(w.s j).wf∧okT (w.s j).tree∧aJ (w.s j).tree=true∧(∀ x,x∈(w.s j).peer.log→x.wf∧x.path.length≤200)∧eM (w.s j).watches:=by
  obtain ⟨⟨g,es,K,h1⟩,h2,_⟩:=h
  have hE:=h1.pr.E0 j hj
  obtain ⟨a,b,c,d⟩:=(h1.sv j hj).wf hj (h1.small j hj) (by omega) ⟨hE.1,hE.2⟩ (h2 j)
  exact ⟨a,b,c,d,h2 j⟩
theorem bH.client {w:AWorld} {n:Nat} (h:bH w n) (hn:n < 1000) {i:Nat} (hi:i < 16):(w.c i).wf∧(w.c i).session=(i:Int)+1∧eJ (w.c i).cache n:=by
  obtain ⟨⟨g,es,K,h1⟩,_,h3⟩:=h
  have hc:=h1.cli i hi
  have ho:=h3.getD i
  change eJ (w.c i).cache n at ho
  have hes:=h1.pr.esn
  obtain ⟨o1,o2,o3,_⟩:=hc.2
  refine ⟨⟨by rw [hc.1];exact cB (by omega) (by omega),cB o1 (by omega),⟨by have:=ho.2.1;omega,fun e he=>?_⟩⟩,hc.1,ho⟩
  have:=ho.2.2 e he
  exact ⟨by unfold okS;omega,by unfold okS;omega,trivial⟩
theorem yo:∀ (X:List ATxn) (p:CSt),(jg X p).1.n.length+(jg X p).1.w.length≤p.n.length+p.w.length
  | [],p=>Nat.le_refl _
  | x::X,p=>by
    rw [jg]
    split
    · exact Nat.le_trans (yo X _) (tI _ p x)
    · exact Nat.le_refl _
theorem jW (s:AServer) (n:Int):(aC s n).2.1.length≤s.watches.length:=by
  unfold aC
  split
  · exact Nat.zero_le _
  · simp only
    split
    · have:=yo ((s.peer.log.drop s.peer.done.toNat).take (n.toNat - s.peer.done.toNat)) ⟨s.tree,s.watches,[]⟩
      simp only [List.length_nil,Nat.zero_add] at this
      simp only
      omega
    · exact Nat.zero_le _
theorem qBo0:Pls [Plan.takes [1,2,3,4] (.fork 0 (Plan.takes [5,6,7,8] .done) 5 (Plan.takes [0,6,7,8] .done))]:=pls _
theorem y7:okS epN:=by unfold okS;decide
theorem uR (d:ADisk) (h:d.files.length*48≤140737488351232) (hw:∀ f,f∈d.files→f.wf):ab Tryz.prog [] 38 [d.av] (ret (I (fK d.files))):=by
  have hr:=FX d epN h hw
  have hz:=Hc (readD d.files epN).1 (by have:=nw (l:=d.files) epN;unfold okS;omega)
  unfold fK
  generalize readD d.files epN=q at hr hz ⊢
  obtain ⟨s,e⟩:=q
  simp only at hr hz ⊢
  generalize ko s=r at hz ⊢
  obtain ⟨z,f⟩:=r
  simp only at hz ⊢
  simp only [epN] at hr
  have he:=epoch_c z
  generalize epZ z=ep at he ⊢
  refine zJ Tryz.func38 Tryz.ntmps38 Tryz.results38 ?_;simp only [go_sem]
  (refine zW qw (z3 hr hz he) trivial (z3 ?_ ?_ ?_)<;>(repeat with_reducible intro hc))
  all_goals first
    | (rw [if_pos (by assumption)];(refine zF rfl ?_ ?_ ?_ ?_;(iterate 3 (focus ((try simp (disch:=omega) only [go_sem,aa])<;>(try omega)<;>fail)));(try simp (disch:=omega) only [go_sem,aa,I,B,S,zj]));done)
    | (rw [if_neg (by omega),if_pos (by assumption)];(refine zF rfl ?_ ?_ ?_ ?_;(iterate 3 (focus ((try simp (disch:=omega) only [go_sem,aa])<;>(try omega)<;>fail)));(try simp (disch:=omega) only [go_sem,aa,I,B,S,zj]));done)
    | (rw [if_neg (by omega),if_neg (by omega)];(refine zF rfl ?_ ?_ ?_ ?_;(iterate 3 (focus ((try simp (disch:=omega) only [go_sem,aa])<;>(try omega)<;>fail)));(try simp (disch:=omega) only [go_sem,aa,I,B,S,zj]));done)
theorem zz {l:List AFile} {key:List UInt8} (h:∀ f,f∈l→f.wf):∀ f,f∈(bE l key).1.files→f.wf:=by
  intro f hf
  unfold bE at hf
  split at hf
  · cases hf
  · split at hf
    · exact h f (List.mem_of_mem_eraseIdx hf)
    · cases hf
def mq (l:List AFile):List AFile:=if (bE l epN).2=0 then (bE l epN).1.files else l
theorem Cj {l:List AFile} (h:l.length*48≤140737488351232) (hw:∀ f,f∈l→f.wf):(mq l).length*48≤140737488351232∧∀ f,f∈mq l→f.wf:=by
  unfold mq
  split
  · exact ⟨CT h,zz hw⟩
  · exact ⟨h,hw⟩
theorem Ah (l:List AFile) (ep:Int) (h:(mkZ ep 0).2=0):bi l ep=if (aR (mq l) epN (fJ (mkZ ep 0).1)).2≠0 then (default,(aR (mq l) epN (fJ (mkZ ep 0).1)).2) else br (aR (mq l) epN (fJ (mkZ ep 0).1)).1.files epN nQ:=by
  unfold bi
  rw [if_neg (fun hh=>hh h)];rfl
theorem GE {ep:Int} (h:(mkZ ep 0).2=0):bV (mkZ ep 0).1:=by
  unfold mkZ at h ⊢
  split at h
  · cases h
  · rename_i hb
    rw [if_neg hb]
    unfold tr at hb;unfold bV;simp only;omega
theorem Ft {z:Int} (h:bV z):okS (fJ z):=by have:=uF h;unfold okS;omega
set_option maxHeartbeats 4000000 in
theorem A0 (d:ADisk) (ep:Int) (h:d.files.length*48≤140737488351232) (hw:∀ f,f∈d.files→f.wf):ab Tryz.prog [] 184 [d.av,I ep] (ret (.tup [(bi d.files ep).1.av,I (bi d.files ep).2])):=by
  have hmk:=zm ep 0
  by_cases hm:(mkZ ep 0).2=0
  case neg=>
    have e:bi d.files ep=(default,(mkZ ep 0).2):=by unfold bi;rw [if_pos hm]
    rw [e]
    generalize mkZ ep 0=m at hm hmk ⊢
    refine zJ Tryz.func184 Tryz.ntmps184 Tryz.results184 ?_;simp only [go_sem]
    (refine zW qw (z1 hmk) @two.eq_1 (z1 ?_)<;>(repeat with_reducible intro hc))
    all_goals first | (exfalso;exact absurd (by assumption) hm) | (exfalso;exact absurd hm (by assumption)) | skip
    all_goals exact zEe dfl
  rw [Ah _ _ hm]
  have hg:=GE hm
  have ht:=FD (mkZ ep 0).1
  rw [BB,if_pos hg] at ht
  have hrm:=GW d epN h hw
  obtain ⟨l1,l2⟩:=Cj h hw
  have hwr:=vt ⟨mq d.files⟩ epN (fJ (mkZ ep 0).1) (Ft hg) y7 l1 l2
  have hsy:=GM (aR (mq d.files) epN (fJ (mkZ ep 0).1)).1 epN jt (dc y7 l2)
  have hls:mq d.files=if (bE d.files epN).2=0 then (bE d.files epN).1.files else d.files:=rfl
  generalize mkZ ep 0=m at hm hmk ht hwr hsy ⊢
  obtain ⟨z,e0⟩:=m
  simp only at hm hmk ht hwr hsy ⊢
  subst hm
  generalize fJ z=s at ht hwr hsy ⊢
  generalize mq d.files=L at hwr hsy hls ⊢
  generalize aR L epN s=Q at hwr hsy ⊢
  obtain ⟨wd,we⟩:=Q
  simp only at hwr hsy ⊢
  generalize br wd.files epN nQ=R at hsy ⊢
  obtain ⟨sd,se⟩:=R
  simp only at hsy ⊢
  generalize bE d.files epN=M at hrm hls
  obtain ⟨rd,re⟩:=M
  simp only at hrm hls
  simp only [epN] at hrm hwr hsy
  by_cases hre:re=0
  · subst hre
    rw [if_pos rfl] at hls
    subst hls
    refine zJ Tryz.func184 Tryz.ntmps184 Tryz.results184 ?_;simp only [go_sem]
    (repeat' first
  | (with_reducible refine AR.f ?_)
  | refine an (by decide) ?_
  | (with_reducible refine AWP.cond rfl ?_ ?_<;>intro hc<;>(try simp only [hcs,beq_iff_eq,ge_iff_le,gt_iff_lt] at hc))
  | ((first | ((first | (with_reducible first | refine zR ?_ | refine zQ (by decide +kernel) ?_ | refine zD (by decide +kernel) ?_ | refine zE (by decide +kernel) ?_ | refine zG (by decide +kernel) ?_));intro K hK) | ((first | refine zA hmk ?_ ?_ ?_ ?_ ?_ | refine zA ht ?_ ?_ ?_ ?_ ?_ | refine zA hrm ?_ ?_ ?_ ?_ ?_ | refine zA hwr ?_ ?_ ?_ ?_ ?_ | refine zA hsy ?_ ?_ ?_ ?_ ?_);(focus exact rfl);(focus exact rfl);iterate 2 (focus ((try simp (disch:=omega) only [go_sem,aa,two])<;>(try omega)<;>fail))) | ((first | refine zN hrm rfl ?_ ?_ | refine zN hwr rfl ?_ ?_ | refine zN hsy rfl ?_ ?_ | refine zX hmk rfl ?_ ?_ | refine zX ht rfl ?_ ?_ | refine zX hrm rfl ?_ ?_ | refine zY hrm ?_ ?_ | refine zX hwr rfl ?_ ?_ | refine zY hwr ?_ ?_ | refine zX hsy rfl ?_ ?_ | refine zY hsy ?_ ?_);(focus ((try simp (disch:=omega) only [go_sem,aa,two])<;>(try omega)<;>fail))) | ((first | (with_reducible refine aunder_i ?_ ?_<;>intro hg) | with_reducible intro hg)<;>(first | (exfalso;simp at hg;done) | (have hg':=hg;(try simp only [hcs,beq_iff_eq,ge_iff_le,gt_iff_lt] at hg');(try simp only [hg])))))<;>(try simp (disch:=omega) only [go_sem,aa,two])<;>(repeat' with_reducible refine And.intro ?_ ?_)<;>(try (with_reducible refine hK _ ?_;clear hK K)))
  | omega)
    all_goals first
      | (rw [if_pos (by assumption)];(refine zF rfl ?_ ?_ ?_ ?_;(iterate 3 (focus ((try simp (disch:=omega) only [go_sem,aa,default])<;>(try omega)<;>fail)));(try simp (disch:=omega) only [go_sem,aa,default,I,B,S,zj]));done)
      | (rw [if_neg (by omega)];(refine zF rfl ?_ ?_ ?_ ?_;(iterate 3 (focus ((try simp (disch:=omega) only [go_sem,aa])<;>(try omega)<;>fail)));(try simp (disch:=omega) only [go_sem,aa,I,B,S,zj]));done)
  · rw [if_neg hre] at hls
    subst hls
    refine zJ Tryz.func184 Tryz.ntmps184 Tryz.results184 ?_;simp only [go_sem]
    (repeat' first
  | (with_reducible refine AR.f ?_)
  | refine an (by decide) ?_
  | (with_reducible refine AWP.cond rfl ?_ ?_<;>intro hc<;>(try simp only [hcs,beq_iff_eq,ge_iff_le,gt_iff_lt] at hc))
  | ((first | ((first | (with_reducible first | refine zR ?_ | refine zQ (by decide +kernel) ?_ | refine zD (by decide +kernel) ?_ | refine zE (by decide +kernel) ?_ | refine zG (by decide +kernel) ?_));intro K hK) | ((first | refine zA hmk ?_ ?_ ?_ ?_ ?_ | refine zA ht ?_ ?_ ?_ ?_ ?_ | refine zA hrm ?_ ?_ ?_ ?_ ?_ | refine zA hwr ?_ ?_ ?_ ?_ ?_ | refine zA hsy ?_ ?_ ?_ ?_ ?_);(focus exact rfl);(focus exact rfl);iterate 2 (focus ((try simp (disch:=omega) only [go_sem,aa,two])<;>(try omega)<;>fail))) | ((first | refine zN hrm rfl ?_ ?_ | refine zN hwr rfl ?_ ?_ | refine zN hsy rfl ?_ ?_ | refine zX hmk rfl ?_ ?_ | refine zX ht rfl ?_ ?_ | refine zX hrm rfl ?_ ?_ | refine zY hrm ?_ ?_ | refine zX hwr rfl ?_ ?_ | refine zY hwr ?_ ?_ | refine zX hsy rfl ?_ ?_ | refine zY hsy ?_ ?_);(focus ((try simp (disch:=omega) only [go_sem,aa,two])<;>(try omega)<;>fail))) | ((first | (with_reducible refine aunder_i ?_ ?_<;>intro hg) | with_reducible intro hg)<;>(first | (exfalso;simp at hg;done) | (have hg':=hg;(try simp only [hcs,beq_iff_eq,ge_iff_le,gt_iff_lt] at hg');(try simp only [hg])))))<;>(try simp (disch:=omega) only [go_sem,aa,two])<;>(repeat' with_reducible refine And.intro ?_ ?_)<;>(try (with_reducible refine hK _ ?_;clear hK K)))
  | omega)
    all_goals first | (exfalso;exact absurd (by assumption) hre) | skip
    all_goals first
      | (rw [if_pos (by assumption)];(refine zF rfl ?_ ?_ ?_ ?_;(iterate 3 (focus ((try simp (disch:=omega) only [go_sem,aa,default])<;>(try omega)<;>fail)));(try simp (disch:=omega) only [go_sem,aa,default,I,B,S,zj]));done)
      | (rw [if_neg (by omega)];(refine zF rfl ?_ ?_ ?_ ?_;(iterate 3 (focus ((try simp (disch:=omega) only [go_sem,aa])<;>(try omega)<;>fail)));(try simp (disch:=omega) only [go_sem,aa,I,B,S,zj]));done)
set_option maxHeartbeats 4000000 in
theorem GX (id:Int) (d:ADisk) (h:d.files.length*48≤140737488351232) (hw:∀ f,f∈d.files→f.wf):ab Tryz.prog [] 53 [I id,d.av] (ret (.tup [(cD id d.files).1.av,I (cD id d.files).2])):=by
  have he:=uR d h hw
  have hr:=lF d h hw
  unfold cD
  generalize fK d.files=ep at he ⊢
  generalize recoverD d.files=R at hr ⊢
  obtain ⟨l,d2,e⟩:=R
  simp only at hr ⊢
  refine zJ Tryz.func53 Tryz.ntmps53 Tryz.results53 ?_;simp only [go_sem]
  (refine zW qw (z4 qBo0 he hr F8) trivial (z4 ?_ ?_ ?_ ?_)<;>(repeat with_reducible intro hc))
  all_goals first
    | (rw [if_pos (by omega)];(refine zF rfl ?_ ?_ ?_ ?_;(iterate 3 (focus ((try simp (disch:=omega) only [go_sem,aa,default])<;>(try omega)<;>fail)));(try simp (disch:=omega) only [go_sem,aa,default,I,B,S,zj]));done)
    | (rw [if_neg (by omega),if_pos (by omega)];(refine zF rfl ?_ ?_ ?_ ?_;(iterate 3 (focus ((try simp (disch:=omega) only [go_sem,aa,default])<;>(try omega)<;>fail)));(try simp (disch:=omega) only [go_sem,aa,default,I,B,S,zj]));done)
    | (rw [if_neg (by omega),if_neg (by omega)];(refine zF rfl ?_ ?_ ?_ ?_;(iterate 3 (focus ((try simp (disch:=omega) only [go_sem,aa,t00])<;>(try omega)<;>fail)));(try simp (disch:=omega) only [go_sem,aa,t00,I,B,S,zj]));done)
theorem mt (l:List AFile) (ep:Int):(bi l ep).1.files.length*48≤140737488351232:=by
  by_cases hm:(mkZ ep 0).2=0
  · rw [Ah _ _ hm]
    split
    · exact (by decide:([]:List AFile).length*48≤140737488351232)
    · exact uf jt
  · have e:bi l ep=(default,(mkZ ep 0).2):=by unfold bi;rw [if_pos hm]
    rw [e]
    exact (by decide:([]:List AFile).length*48≤140737488351232)
theorem sb:∀ (a b:List ATxn) (k:Nat),(∀ j,j < k→(a.getD j default).zxid=(b.getD j default).zxid)→k≤a.length→k≤b.length→(k < a.length→k < b.length→(a.getD k default).zxid≠(b.getD k default).zxid)→bh a b=k
  | [],b,k,_,ha,_,_=>by simp at ha;subst ha;unfold bh;rfl
  | x::a,[],k,_,_,hb,_=>by simp at hb;subst hb;unfold bh;rfl
  | x::a,y::b,0,_,_,_,hs=>by
    have h0:=hs (by simp) (by simp)
    simp only [List.getD_cons_zero] at h0
    unfold bh;rw [if_neg h0]
  | x::a,y::b,k+1,h,ha,hb,hs=>by
    have h0:=h 0 (by omega)
    simp only [List.getD_cons_zero] at h0
    unfold bh;rw [if_pos h0]
    rw [sb a b k (fun j hj=>by simpa using h (j+1) (by omega)) (by simpa using ha) (by simpa using hb) (fun h1 h2=>by simpa using hs (by simpa using h1) (by simpa using h2))]
theorem wD {l:List AFile} {key:List UInt8} (hw:∀ f,f∈l→f.wf):∀ f,f∈(br l key nQ).1.files→f.wf:=by
  intro f hf
  by_cases hg:bL l=true
  · by_cases hm:key∈l.map AFile.name
    · rw [gQ hg hm rfl] at hf
      have hk:=((gP.1 hg).2 _ (gl hg hm)).1.2
      rcases List.mem_or_eq_of_mem_set hf with h | h
      · exact hw f h
      · subst h
        obtain ⟨g1,_,_,_⟩:=iJ hw (place (l.map AFile.name) key)
        exact ⟨g1,by show okS (_++_);unfold okS;rw [List.length_append];omega,by show okS [];unfold okS;decide⟩
    · rw [lh hg hm] at hf;cases hf
  · rw [mW hg] at hf;cases hf
theorem xM {l:List AFile} {z:Int} (hw:∀ f,f∈l→f.wf):∀ f,f∈(keepD l z).1.files→f.wf:=by
  intro f hf
  by_cases h:(recoverD l).2.2=0
  · have o:=jS h
    rw [qK h] at hf
    rcases List.mem_or_eq_of_mem_set hf with h1 | h1
    · exact o.wf hw f h1
    · subst h1
      have hl:(encs (keepL (recoverD l).1 z)).length≤1048576:=Nat.le_trans (qa _ _) o.len
      exact ⟨iA,by show okS (encs (keepL (recoverD l).1 z));unfold okS;omega,by show okS [];unfold okS;decide⟩
  · rw [B1 h] at hf;cases hf
theorem oe {l:List AFile} {ep:Int} (h:l.length*48≤140737488351232) (hw:∀ f,f∈l→f.wf):∀ f,f∈(bi l ep).1.files→f.wf:=by
  by_cases hm:(mkZ ep 0).2=0
  · rw [Ah _ _ hm]
    split
    · intro f hf;cases hf
    · exact wD (dc y7 (Cj h hw).2)
  · have e:bi l ep=(default,(mkZ ep 0).2):=by unfold bi;rw [if_pos hm]
    rw [e];intro f hf;cases hf
theorem y9 {l:List AFile} {t:ATxn} {safe:Bool} (hw:∀ f,f∈l→f.wf):∀ f,f∈(cZ l t safe).1.files→f.wf:=by
  unfold cZ
  split
  · intro f hf;cases hf
  · split
    · exact dc iA hw
    · exact wD (dc iA hw)
theorem iP:(default:AServer).wf:=
  ⟨trivial,⟨by decide,fun _ h=>by cases h⟩,⟨⟨by decide,by decide⟩,⟨by decide,by decide⟩,⟨by decide,fun _ h=>by cases h⟩,⟨by decide,by decide⟩⟩,⟨⟨by decide,by decide⟩,⟨by decide,fun _ h=>by cases h⟩,⟨by decide,fun _ h=>by cases h⟩⟩,⟨by decide,fun _ h=>by cases h⟩⟩
theorem wF {s:AServer} {x:ATxn} {safe:Bool} (hw:s.wf) (hx:x.wf) (hl:s.peer.log.length≤1048576):(bo s x safe).1.wf:=by
  obtain ⟨_,h1,h2,h3,h4⟩:=hw
  unfold bo
  split
  · exact iP
  split
  · refine ⟨trivial,⟨De,y9 h1.2⟩,⟨h2.1,h2.2.1,⟨?_,fun y hy=>?_⟩,h2.2.2.2⟩,h3,h4⟩
    · show (s.peer.log++[x]).length*72≤_;rw [List.length_append,List.length_singleton];omega
    · rcases List.mem_append.1 hy with hy | hy
      · exact h2.2.2.1.2 y hy
      · rw [List.mem_singleton.1 hy];exact hx
  · exact iP
theorem xp {s:AServer} {x:ATxn} {safe:Bool}:(bo s x safe).1.peer.log.length≤s.peer.log.length+1:=by
  unfold bo
  split
  · exact Nat.zero_le _
  split
  · show (s.peer.log++[x]).length≤_;rw [List.length_append,List.length_singleton];exact Nat.le_refl _
  · exact Nat.zero_le _
theorem sK (l:List ATxn) (k:Nat) (h:k < l.length):l.drop k=l.getD k default::l.drop (k+1):=by
  rw [List.drop_eq_getElem_cons h,List.getD_eq_getElem?_getD,List.getElem?_eq_getElem h];rfl
structure GS (s:AServer):Prop where
  w:s.wf
  t:okT s.tree
  p:∀ x,x∈s.peer.log→x.path.length≤1048576
theorem ef:GS default:=⟨iP,⟨iP.2.2.2.1,fun _ h=>by cases h⟩,fun _ h=>by cases h⟩
theorem B4 {s:AServer} {x:ATxn} {safe:Bool} (h:GS s) (hx:x.wf) (hp:x.path.length≤1048576) (hl:s.peer.log.length≤1048576):GS (bo s x safe).1:=by
  refine ⟨wF h.w hx hl,?_,?_⟩
  · unfold bo
    split
    · exact ef.t
    split
    · exact h.t
    · exact ef.t
  · unfold bo
    split
    · exact ef.p
    split
    · intro y hy
      rcases List.mem_append.1 hy with hy | hy
      · exact h.p y hy
      · rw [List.mem_singleton.1 hy];exact hp
    · exact ef.p
theorem xS:∀ (r:List ATxn) {s:AServer},GS s→(∀ x,x∈r→x.wf∧x.path.length≤1048576)→s.peer.log.length+r.length≤1048576→GS (eF s r).1
  | [],s,h,_,_=>h
  | x :: r,s,h,hr,hl=>by
    rw [List.length_cons] at hl
    rw [eF]
    split
    · have:=xp (s:=s) (x:=x) (safe:=true)
      obtain ⟨a,b⟩:=hr x (List.mem_cons_self ..)
      exact xS r (B4 h a b (by omega)) (fun y hy=>hr y (List.mem_cons_of_mem _ hy)) (by omega)
    · exact ef
def Nc (s:AServer) (l:List ATxn) (ep:Int) (k:Nat):AServer×Int:=
  if (k:Int) < s.peer.done then (default,13) else
  if (keepD s.disk.files (fE l k)).2≠0 then (default,(keepD s.disk.files (fE l k)).2) else
  if (bi (keepD s.disk.files (fE l k)).1.files ep).2≠0 then (default,(bi (keepD s.disk.files (fE l k)).1.files ep).2) else
  eF ⟨s.up,(bi (keepD s.disk.files (fE l k)).1.files ep).1,⟨s.peer.id,ep,s.peer.log.take k,s.peer.done⟩,s.tree,s.watches⟩ (l.drop k)
theorem JU (s:AServer) (l:List ATxn) (ep:Int):aI s l ep=Nc s l ep (bh l s.peer.log):=rfl
theorem C4 {x:ATxn} {r:List ATxn} {s:AServer} (h:(bo s x true).2=0):eF s (x::r)=eF (bo s x true).1 r:=by rw [eF,if_pos h]
theorem Cx {x:ATxn} {r:List ATxn} {s:AServer} (h:¬ (bo s x true).2=0):eF s (x::r)=(default,(bo s x true).2):=by rw [eF,if_neg h]
structure TkInv (X:List ATxn) (F:AServer×Int) (v:Nat×AServer):Prop where
  k:v.1≤X.length
  f:eF v.2 (X.drop v.1)=F
  w:v.2.wf
  l:v.2.peer.log.length+(X.length - v.1)≤1048576
theorem TkInv.next {X:List ATxn} {F:AServer×Int} {v:Nat×AServer} (h:TkInv X F v) (hk:v.1 < X.length) (hX:∀ x,x∈X→x.wf) (h0:(bo v.2 (X.getD v.1 default) true).2=0):TkInv X F (v.1+1,(bo v.2 (X.getD v.1 default) true).1):=by
  obtain ⟨h1,h2,h3,h4⟩:=h
  have hx:=hX _ (cz X default hk)
  have hd:=sK X v.1 hk
  rw [hd,C4 h0] at h2
  have:=xp (s:=v.2) (x:=X.getD v.1 default) (safe:=true)
  exact ⟨hk,h2,wF h3 hx (by omega),by simp only;omega⟩
theorem TkInv.stop {X:List ATxn} {F:AServer×Int} {v:Nat×AServer} (h:TkInv X F v) (hk:v.1 < X.length) (h0:¬ (bo v.2 (X.getD v.1 default) true).2=0):F=(default,(bo v.2 (X.getD v.1 default) true).2):=by
  have h2:=h.f
  rw [sK X v.1 hk,Cx h0] at h2
  exact h2.symm
theorem TkInv.end {X:List ATxn} {F:AServer×Int} {v:Nat×AServer} (h:TkInv X F v) (hk:¬ v.1 < X.length):F=(v.2,0):=by
  have h2:=h.f
  rw [List.drop_of_length_le (by have:=h.k;omega)] at h2
  exact h2.symm
theorem B5 {s:AServer} {d:ADisk} {ep:Int} {k:Nat} (hw:s.wf) (hd:d.wf) (he:okI ep):AServer.wf ⟨s.up,d,⟨s.peer.id,ep,s.peer.log.take k,s.peer.done⟩,s.tree,s.watches⟩:=by
  obtain ⟨_,h1,h2,h3,h4⟩:=hw
  have:=h2.2.2.1.1
  exact ⟨trivial,hd,⟨h2.1,he,⟨by show (s.peer.log.take k).length*72≤_;rw [List.length_take];omega,fun y hy=>h2.2.2.1.2 y (List.mem_of_mem_take hy)⟩,h2.2.2.2⟩,h3,h4⟩
theorem DY {s:AServer} {l:List ATxn} {ep:Int} (h:GS s) (hl:∀ x,x∈l→x.wf∧x.path.length≤1048576) (hll:l.length≤1048576) (he:okI ep):GS (aI s l ep).1:=by
  have hk:=jP l s.peer.log
  unfold aI
  split
  · exact ef
  split
  · exact ef
  split
  · exact ef
  · obtain ⟨_,h1,h2,h3,h4⟩:=h.w
    refine xS _ ⟨B5 h.w ⟨mt _ _,oe Ca (xM h1.2)⟩ he,h.t,fun x hx=>h.p x (List.mem_of_mem_take hx)⟩ (fun x hx=>hl x (List.mem_of_mem_drop hx)) ?_
    show (s.peer.log.take _).length+_≤_
    rw [List.length_take,List.length_drop];omega
set_option maxHeartbeats 8000000 in
theorem Ij (s:AServer) (l:List ATxn) (ep:Int) (hw:s.wf) (hlw:∀ x,x∈l→x.wf) (hll:l.length≤1048576) (he:okI ep):ab Tryz.prog [] 114 [s.av,.d (.sl 7 (l.map ATxn.row)),I ep] (ret (.tup [(aI s l ep).1.av,I (aI s l ep).2])):=by
  have hw0:=hw
  obtain ⟨_,h1,h2,h3,h4⟩:=hw
  have hl7:=h2.2.2.1.1
  have hok0:=h2.2.2.2
  rw [JU]
  generalize hC:bh l s.peer.log=C
  refine zJ Tryz.func114 Tryz.ntmps114 Tryz.results114 ?_;simp only [go_sem]
  (refine zW qw zn trivial (z1 ?_)<;>(repeat with_reducible intro hc))
  refine AWP.loopB (ι:=Nat) (fun k=>k≤l.length∧k≤s.peer.log.length∧∀ j,j < k→(l.getD j default).zxid=(s.peer.log.getD j default).zxid) (fun k=>l.length - k) [1,2,3,6] (fun k=>[(8,I k)]) (fun k=>[.cells [B s.up,.d (.sl 3 (s.disk.files.map AFile.row)),I s.peer.id,I s.peer.epoch,.d (.sl 7 (s.peer.log.map ATxn.row)),I s.peer.done,I s.tree.zxid,.d (.sl 9 (s.tree.nodes.map ANode.row)),.d (.sl 1 (s.tree.sessions.map cO)),.d (.sl 3 (s.watches.map AWatch.row))],.cells [B false,.d (.sc (.slice none 0 0)),I 0,I 0,.d (.sc (.slice none 0 0)),I 0,I 0,.d (.sc (.slice none 0 0)),.d (.sc (.slice none 0 0)),.d (.sc (.slice none 0 0))]]) 0 ?_ ?_ ?_
  · exact ⟨Nat.zero_le _,Nat.zero_le _,fun j hj=>by omega⟩
  · simp only [go_sem];exact zSm trivial
  intro k ⟨hk1,hk2,hk3⟩
  simp only [go_sem]
  by_cases hgo:k < l.length∧k < s.peer.log.length∧(l.getD k default).zxid=(s.peer.log.getD k default).zxid
  · obtain ⟨g1,g2,g3⟩:=hgo
    (refine zW qw zn (zx (fun z=>ATxn.rgetD l k z g1) (zx (fun z=>ATxn.rgetD s.peer.log k z g2) (zx @g3 (zx @g1 @g2)))) (z1 ?_)<;>(repeat with_reducible intro hc))
    all_goals first | (exfalso;omega) | skip
    refine ⟨k+1,⟨by omega,by omega,fun j hj=>?_⟩,by omega,?_⟩
    · by_cases e:j=k
      · subst e;exact g3
      · exact hk3 j (by omega)
    · exact zSm trivial
  have hkC:C=k:=by rw [←hC];exact sb _ _ _ hk3 hk1 hk2 fun a b c=>hgo ⟨a,b,c⟩
  subst hkC
  have hkp:=Mj s.disk (fE l C) h1.1 h1.2
  have kwf:=Ca (l:=s.disk.files) (z:=fE l C)
  have kfw:=xM (z:=fE l C) h1.2
  have hrm:=A0 (keepD s.disk.files (fE l C)).1 ep kwf kfw
  have rwf:=mt (keepD s.disk.files (fE l C)).1.files ep
  have rfw:=oe (ep:=ep) kwf kfw
  have hbz:fE l C=if 0 < C then (l.getD (C - 1) default).zxid else -1:=rfl
  have hXe:List.take (l.length - C) (List.drop C (l.map ATxn.row))=(l.drop C).map ATxn.row:=by rw [←List.map_drop];exact List.take_of_length_le (by simp)
  have hYe:List.take C (s.peer.log.map ATxn.row)=(s.peer.log.take C).map ATxn.row:=by rw [List.map_take]
  have hYl:(s.peer.log.take C).length=C:=by rw [List.length_take];omega
  have hXl:(l.drop C).length=l.length - C:=List.length_drop
  have hXw:∀ x,x∈l.drop C→x.wf:=fun x hx=>hlw x (List.mem_of_mem_drop hx)
  unfold Nc
  by_cases hd:(C:Int) < s.peer.done
  · rw [if_pos hd]
    (refine zW qw zn trivial (z1 ?_)<;>(repeat with_reducible intro hc))
    all_goals first | (exfalso;omega) | skip
    all_goals exact zEe dfl
  rw [if_neg hd]
  have hsw (d:ADisk) (hd:d.wf):=B5 (k:=C) hw0 hd he
  generalize fE l C=bz at hbz hkp hrm kwf kfw rwf rfw ⊢
  generalize keepD s.disk.files bz=K at hkp hrm kwf kfw rwf rfw ⊢
  obtain ⟨kd,ke⟩:=K
  simp only at hkp hrm kwf kfw rwf rfw ⊢
  generalize bi kd.files ep=R at hrm rwf rfw ⊢
  obtain ⟨rd,re⟩:=R
  simp only at hrm rwf rfw ⊢
  have hrw:rd.wf:=⟨rwf,rfw⟩
  have hsw:=hsw rd hrw
  generalize hX:l.drop C=X at hXe hXl hXw ⊢
  generalize hY:s.peer.log.take C=Y at hYe hYl hsw ⊢
  have hYt:List.take C (Y.map ATxn.row)=Y.map ATxn.row:=List.take_of_length_le (by simp;omega)
  have hmn:min C s.peer.log.length=C:=Nat.min_eq_left hk2
  generalize hF:(if ke≠0 then ((default:AServer),ke) else if re≠0 then (default,re) else eF ⟨s.up,rd,⟨s.peer.id,ep,Y,s.peer.done⟩,s.tree,s.watches⟩ X)=F
  by_cases h0:0 < C
  · rw [if_pos h0] at hbz
    subst hbz
    (refine zW qw (z2 hkp hrm) (zx (fun z=>ATxn.rgetD l (C - 1) z (by omega)) (zx @hXe (zx @hYe (zx @wE (zx @Nat.sub_zero @hmn))))) (z3 ?_ ?_ ?_)<;>(repeat with_reducible intro hc))
    · rw [if_pos hc] at hF
      subst hF
      exact zEe dfl
    · rw [if_neg (by omega),if_pos hc] at hF
      subst hF
      exact zEe dfl
    · rw [if_neg (by omega),if_neg (by omega)] at hF
      refine AWP.weaken (aG.frzC 0 4 rfl rfl rfl (by first | (simp;done) | (simp;omega)) (by decide) (fun j hj=>absurd hj (Nat.not_lt_zero j))) ?_
      simp only [go_sem]
      refine AWP.loopB (ι:=Nat×AServer) (fun v=>TkInv X F v) (fun v=>X.length - v.1) [3,6,92,93] (fun v=>[(94,I v.1)]) (fun v=>[.cells [B v.2.up,.d (.sl 3 (v.2.disk.files.map AFile.row)),I v.2.peer.id,I v.2.peer.epoch,.d (.sl 7 (v.2.peer.log.map ATxn.row)),I v.2.peer.done,I v.2.tree.zxid,.d (.sl 9 (v.2.tree.nodes.map ANode.row)),.d (.sl 1 (v.2.tree.sessions.map cO)),.d (.sl 3 (v.2.watches.map AWatch.row))],.cells [B false,.d (.sc (.slice none 0 0)),I 0,I 0,.d (.sc (.slice none 0 0)),I 0,I 0,.d (.sc (.slice none 0 0)),.d (.sc (.slice none 0 0)),.d (.sc (.slice none 0 0))]]) (0,⟨s.up,rd,⟨s.peer.id,ep,Y,s.peer.done⟩,s.tree,s.watches⟩) ?_ ?_ ?_
      · exact ⟨Nat.zero_le _,hF,hsw,by simp only;omega⟩
      · simp only [go_sem];exact zFr [0,1] (zx @List.drop_zero.{0} @hYt)
      intro v hv
      simp only [go_sem]
      have hvk:=hv.k
      by_cases hk4:v.1 < X.length
      · have hxw:=hXw _ (cz X default hk4)
        have hvl:=hv.l
        have ht:=Ao v.2 (X.getD v.1 default) true hv.w hxw (by omega)
        have hrow:∀ z,List.getD (X.map ATxn.row) v.1 z=(X.getD v.1 default).row:=fun z=>ATxn.rgetD X v.1 z hk4
        by_cases ht0:(bo v.2 (X.getD v.1 default) true).2=0
        · have hnx:=hv.next hk4 hXw ht0
          generalize X.getD v.1 default=x at ht ht0 hnx hrow
          generalize bo v.2 x true=q at ht ht0 hnx
          obtain ⟨q1,q2⟩:=q
          simp only at ht ht0 hnx
          (refine zW qw (z1 ht) (zx @hrow @ATxn.row.eq_1) (z1 ?_)<;>(repeat with_reducible intro hc))
          all_goals first | (exfalso;omega) | skip
          refine ⟨(v.1+1,q1),hnx,by simp only;omega,?_⟩
          exact zFr [0,1] trivial
        · have hst:=hv.stop hk4 ht0
          generalize X.getD v.1 default=x at ht ht0 hst hrow
          generalize bo v.2 x true=q at ht ht0 hst
          obtain ⟨q1,q2⟩:=q
          simp only at ht ht0 hst
          subst hst
          (refine zW qw (z1 ht) (zx @hrow @ATxn.row.eq_1) (z1 ?_)<;>(repeat with_reducible intro hc))
          all_goals first | (exfalso;omega) | skip
          exact zEe dfl
      · have hst:=hv.end hk4
        subst hst
        (refine zW qw zn trivial (z1 ?_)<;>(repeat with_reducible intro hc))
        all_goals first | (exfalso;omega) | skip
        exact zEe trivial
  · rw [if_neg h0] at hbz
    subst hbz
    (refine zW qw (z2 hkp hrm) (zx @hXe (zx @hYe (zx @Nat.sub_zero @hmn))) (z3 ?_ ?_ ?_)<;>(repeat with_reducible intro hc))
    · rw [if_pos hc] at hF
      subst hF
      exact zEe dfl
    · rw [if_neg (by omega),if_pos hc] at hF
      subst hF
      exact zEe dfl
    · rw [if_neg (by omega),if_neg (by omega)] at hF
      refine AWP.weaken (aG.frzC 0 4 rfl rfl rfl (by first | (simp;done) | (simp;omega)) (by decide) (fun j hj=>absurd hj (Nat.not_lt_zero j))) ?_
      simp only [go_sem]
      refine AWP.loopB (ι:=Nat×AServer) (fun v=>TkInv X F v) (fun v=>X.length - v.1) [3,6,92,93] (fun v=>[(94,I v.1)]) (fun v=>[.cells [B v.2.up,.d (.sl 3 (v.2.disk.files.map AFile.row)),I v.2.peer.id,I v.2.peer.epoch,.d (.sl 7 (v.2.peer.log.map ATxn.row)),I v.2.peer.done,I v.2.tree.zxid,.d (.sl 9 (v.2.tree.nodes.map ANode.row)),.d (.sl 1 (v.2.tree.sessions.map cO)),.d (.sl 3 (v.2.watches.map AWatch.row))],.cells [B false,.d (.sc (.slice none 0 0)),I 0,I 0,.d (.sc (.slice none 0 0)),I 0,I 0,.d (.sc (.slice none 0 0)),.d (.sc (.slice none 0 0)),.d (.sc (.slice none 0 0))]]) (0,⟨s.up,rd,⟨s.peer.id,ep,Y,s.peer.done⟩,s.tree,s.watches⟩) ?_ ?_ ?_
      · exact ⟨Nat.zero_le _,hF,hsw,by simp only;omega⟩
      · simp only [go_sem];exact zFr [0,1] (zx @List.drop_zero.{0} @hYt)
      intro v hv
      simp only [go_sem]
      have hvk:=hv.k
      by_cases hk4:v.1 < X.length
      · have hxw:=hXw _ (cz X default hk4)
        have hvl:=hv.l
        have ht:=Ao v.2 (X.getD v.1 default) true hv.w hxw (by omega)
        have hrow:∀ z,List.getD (X.map ATxn.row) v.1 z=(X.getD v.1 default).row:=fun z=>ATxn.rgetD X v.1 z hk4
        by_cases ht0:(bo v.2 (X.getD v.1 default) true).2=0
        · have hnx:=hv.next hk4 hXw ht0
          generalize X.getD v.1 default=x at ht ht0 hnx hrow
          generalize bo v.2 x true=q at ht ht0 hnx
          obtain ⟨q1,q2⟩:=q
          simp only at ht ht0 hnx
          (refine zW qw (z1 ht) (zx @hrow @ATxn.row.eq_1) (z1 ?_)<;>(repeat with_reducible intro hc))
          all_goals first | (exfalso;omega) | skip
          refine ⟨(v.1+1,q1),hnx,by simp only;omega,?_⟩
          exact zFr [0,1] trivial
        · have hst:=hv.stop hk4 ht0
          generalize X.getD v.1 default=x at ht ht0 hst hrow
          generalize bo v.2 x true=q at ht ht0 hst
          obtain ⟨q1,q2⟩:=q
          simp only at ht ht0 hst
          subst hst
          (refine zW qw (z1 ht) (zx @hrow @ATxn.row.eq_1) (z1 ?_)<;>(repeat with_reducible intro hc))
          all_goals first | (exfalso;omega) | skip
          exact zEe dfl
      · have hst:=hv.end hk4
        subst hst
        (refine zW qw zn trivial (z1 ?_)<;>(repeat with_reducible intro hc))
        all_goals first | (exfalso;omega) | skip
        exact zEe trivial
theorem qt (a:List ATxn) (h:a.length*72≤140737488351232):ab Tryz.prog [] 30 [.d (.sl 7 (a.map ATxn.row)),.d (.sl 7 (a.map ATxn.row))] (ret (B true)):=by
  refine zJ Tryz.func30 Tryz.ntmps30 Tryz.results30 ?_;simp only [go_sem]
  (refine zW qw zn trivial (z1 ?_)<;>(repeat with_reducible intro hc))
  refine AWP.loopS (ι:=Nat) (fun k=>k≤a.length) (fun k=>a.length - k) [0,1] (fun k=>[(5,I k)]) 0 ?_ (by simp (disch:=omega) only [go_sem,aa,true_and]) ?_
  · omega
  intro k hk
  simp only [go_sem]
  (refine zW qw zn trivial (z2 ?_ ?_)<;>(repeat with_reducible intro hc))
  · refine ⟨k+1,by omega,by omega,?_⟩
    exact zSm trivial
  · exact zEe trivial
theorem pN (a:ATree) (ha:a.wf):ab Tryz.prog [] 33 [a.av,a.av] (ret (B true)):=by
  obtain ⟨hz,⟨hn,hnw⟩,⟨hs,hsw⟩⟩:=ha
  refine zJ Tryz.func33 Tryz.ntmps33 Tryz.results33 ?_;simp only [go_sem]
  (refine zW qw zn trivial (z1 ?_)<;>(repeat with_reducible intro hc))
  refine AWP.loopS (ι:=Nat) (fun k=>k≤a.nodes.length) (fun k=>a.nodes.length - k) [2,3] (fun k=>[(5,I k)]) 0 ?_ (by simp (disch:=omega) only [go_sem,aa,true_and]) ?_
  · omega
  intro k hk
  simp only [go_sem]
  (refine zW qw zn trivial (z2 ?_ ?_)<;>(repeat with_reducible intro hc))
  · refine ⟨k+1,by omega,by omega,?_⟩
    exact zSm trivial
  clear hk hc
  refine AWP.loopS (ι:=Nat) (fun j=>j≤a.sessions.length) (fun j=>a.sessions.length - j) [2,3] (fun j=>[(6,I j)]) 0 ?_ (by simp (disch:=omega) only [go_sem,aa,true_and]) ?_
  · omega
  intro j hj
  simp only [go_sem]
  (refine zW qw zn trivial (z2 ?_ ?_)<;>(repeat with_reducible intro hc))
  · refine ⟨j+1,by omega,by omega,?_⟩
    exact zSm trivial
  · exact zEe trivial
theorem mh (a:AServer) (hw:a.wf):ab Tryz.prog [] 41 [a.av,a.av] (ret (B true)):=by
  obtain ⟨_,h1,h2,h3,h4⟩:=hw
  have hl1:=h1.1
  have hl5:=h4.1
  have ht:=pN a.tree h3
  have hl:=qt a.peer.log h2.2.2.1.1
  refine zJ Tryz.func41 Tryz.ntmps41 Tryz.results41 ?_;simp only [go_sem]
  (repeat' first
| (with_reducible refine AR.f ?_)
| refine an (by decide) ?_
| (with_reducible refine AWP.cond rfl ?_ ?_<;>intro hc<;>(try simp only [hcs,beq_iff_eq,ge_iff_le,gt_iff_lt] at hc))
| ((first | ((first | (with_reducible first | refine zR ?_ | refine zQ (by decide +kernel) ?_ | refine zD (by decide +kernel) ?_ | refine zE (by decide +kernel) ?_ | refine zG (by decide +kernel) ?_));intro K hK) | ((first | refine zA hl ?_ ?_ ?_ ?_ ?_ | refine zA ht ?_ ?_ ?_ ?_ ?_);(focus exact rfl);(focus exact rfl);iterate 2 (focus ((try simp (disch:=omega) only [go_sem,aa,List.append_eq])<;>(try omega)<;>fail))) | ((first | refine zX hl rfl ?_ ?_ | refine zX ht rfl ?_ ?_);(focus ((try simp (disch:=omega) only [go_sem,aa,List.append_eq])<;>(try omega)<;>fail))) | ((first | (with_reducible refine aunder_i ?_ ?_<;>intro hg) | with_reducible intro hg)<;>(first | (exfalso;simp at hg;done) | (have hg':=hg;(try simp only [hcs,beq_iff_eq,ge_iff_le,gt_iff_lt] at hg');(try simp only [hg])))))<;>(try simp (disch:=omega) only [go_sem,aa,List.append_eq])<;>(repeat' with_reducible refine And.intro ?_ ?_)<;>(try (with_reducible refine hK _ ?_;clear hK K)))
| omega)
  refine AWP.loopS (ι:=Nat) (fun k=>k≤a.disk.files.length) (fun k=>a.disk.files.length - k) [2,3] (fun k=>[(5,I k)]) 0 ?_ (by simp (disch:=omega) only [go_sem,aa,true_and]) ?_
  · omega
  intro k hk
  simp only [go_sem]
  (refine zW qw zn trivial (z2 ?_ ?_)<;>(repeat with_reducible intro hc))
  · refine ⟨k+1,by omega,by omega,?_⟩
    exact zSm trivial
  clear hk hc
  refine AWP.loopS (ι:=Nat) (fun j=>j≤a.watches.length) (fun j=>a.watches.length - j) [2,3] (fun j=>[(6,I j)]) 0 ?_ (by simp (disch:=omega) only [go_sem,aa,true_and]) ?_
  · omega
  intro j hj
  simp only [go_sem]
  (refine zW qw zn trivial (z2 ?_ ?_)<;>(repeat with_reducible intro hc))
  · refine ⟨j+1,by omega,by omega,?_⟩
    exact zSm trivial
  · exact zEe trivial
theorem mg (a:AClient) (h:a.cache.length*40≤140737488351232):ab Tryz.prog [] 42 [a.av,a.av] (ret (B true)):=by
  refine zJ Tryz.func42 Tryz.ntmps42 Tryz.results42 ?_;simp only [go_sem]
  (refine zW qw zn trivial (z1 ?_)<;>(repeat with_reducible intro hc))
  refine AWP.loopS (ι:=Nat) (fun k=>k≤a.cache.length) (fun k=>a.cache.length - k) [2,3] (fun k=>[(5,I k)]) 0 ?_ (by simp (disch:=omega) only [go_sem,aa,true_and]) ?_
  · omega
  intro k hk
  simp only [go_sem]
  (refine zW qw zn trivial (z2 ?_ ?_)<;>(repeat with_reducible intro hc))
  · refine ⟨k+1,by omega,by omega,?_⟩
    exact zSm trivial
  · exact zEe trivial
theorem vX (a:AReply) (h:a.notes.length*32≤140737488351232):ab Tryz.prog [] 45 [a.av,a.av] (ret (B true)):=by
  refine zJ Tryz.func45 Tryz.ntmps45 Tryz.results45 ?_;simp only [go_sem]
  (refine zW qw zn trivial (z1 ?_)<;>(repeat with_reducible intro hc))
  refine AWP.loopS (ι:=Nat) (fun k=>k≤a.notes.length) (fun k=>a.notes.length - k) [2,3] (fun k=>[(5,I k)]) 0 ?_ (by simp (disch:=omega) only [go_sem,aa,true_and]) ?_
  · omega
  intro k hk
  simp only [go_sem]
  (refine zW qw zn trivial (z2 ?_ ?_)<;>(repeat with_reducible intro hc))
  · refine ⟨k+1,by omega,by omega,?_⟩
    exact zSm trivial
  · exact zEe trivial
def mC (k n:Int):Int:=if k.tmod n < 0 then k.tmod n+n else k.tmod n
theorem rg (k:Int) {n:Nat} (h:0 < n):0≤mC k n∧mC k n < n:=by
  have h1:=Int.tmod_lt_of_pos k (show (0:Int) < n by omega)
  have h2:=Int.lt_tmod_of_pos k (show (0:Int) < n by omega)
  unfold mC
  split<;>omega
theorem Bn (k n:Int) (h0:0 < n) (h1:n≤100000):ab Tryz.prog [] 28 [I k,I n] (ret (I (mC k n))):=by
  have h1:=Int.tmod_lt_of_pos k h0
  have h2:=Int.lt_tmod_of_pos k h0
  unfold mC
  refine zJ Tryz.func28 Tryz.ntmps28 Tryz.results28 ?_;simp only [go_sem]
  (refine zW qw zn trivial (z2 ?_ ?_)<;>(repeat with_reducible intro hc))
  · rw [if_pos (by assumption)];exact zEe trivial
  · rw [if_neg (by omega)];exact zEe trivial
structure CW where
  s:Nat→AServer
  c:Nat→AClient
  leader:Int
  f:Nat→Bool
  n:Nat
  deeds:Int
namespace CW
def setS (v:CW) (i:Nat) (x:AServer):CW:={ v with s:=fun j=>if j=i then x else v.s j }
def setC (v:CW) (i:Nat) (x:AClient):CW:={ v with c:=fun j=>if j=i then x else v.c j }
def setF (v:CW) (i:Nat) (b:Bool):CW:={ v with f:=fun j=>if j=i then b else v.f j }
def setL (v:CW) (l:Int):CW:={ v with leader:=l }
def setD (v:CW) (d:Int):CW:={ v with deeds:=d }
def setN (v:CW) (n:Nat):CW:={ v with n:=n }
def noF (v:CW):CW:={ v with f:=fun _=>false }
end CW
def svC (s:AServer):List AV:=[.d (.bool s.up),.d (.sl 3 (s.disk.files.map AFile.row)),I s.peer.id,I s.peer.epoch,.d (.sl 7 (s.peer.log.map ATxn.row)),I s.peer.done,I s.tree.zxid,.d (.sl 9 (s.tree.nodes.map ANode.row)),.d (.sl 1 (s.tree.sessions.map cO)),.d (.sl 3 (s.watches.map AWatch.row))]
def clC (c:AClient):List AV:=[I c.session,I c.seen,.d (.sl 3 (c.cache.map AEntry.row))]
def wC (v:CW) (k:Nat):List AV:=svC (v.s 0)++(svC (v.s 1)++(svC (v.s 2)++(clC (v.c 0)++(clC (v.c 1)++(clC (v.c 2)++(clC (v.c 3)++(clC (v.c 4)++(clC (v.c 5)++(clC (v.c 6)++(clC (v.c 7)++(clC (v.c 8)++(clC (v.c 9)++(clC (v.c 10)++(clC (v.c 11)++(clC (v.c 12)++(clC (v.c 13)++(clC (v.c 14)++(clC (v.c 15)++[I v.leader,B (v.f 0),B (v.f 1),B (v.f 2),.osl k 7 0 v.n,I v.deeds]))))))))))))))))))
theorem LW (v:CW) (k:Nat):(wC v k).length=84:=by
  rfl
theorem cgL (v:CW) (k:Nat):(wC v k).getD 78 .any=I v.leader:=by
  rfl
theorem cgDe (v:CW) (k:Nat):(wC v k).getD 83 .any=I v.deeds:=by
  rfl
theorem cgN (v:CW) (k:Nat):(wC v k).getD 82 .any=.osl k 7 0 v.n:=by
  rfl
theorem cgF (v:CW) (k i:Nat) (h:i < 3):(wC v k).getD (79+i) .any=B (v.f i):=by
  rcases i with _ | _ | _ | i<;>first | rfl | omega
theorem cgUp (v:CW) (k i:Nat) (h:i < 3):(wC v k).getD (i*10) .any=B (v.s i).up:=by
  rcases i with _ | _ | _ | i<;>first | rfl | omega
theorem Lo (v:CW) (k i:Nat) (h:i < 3):((wC v k).drop (i*10+1)).take 1=[.d (.sl 3 ((v.s i).disk.files.map AFile.row))]:=by
  rcases i with _ | _ | _ | i<;>first | rfl | omega
theorem Ll (v:CW) (k i:Nat) (h:i < 3):((wC v k).drop (i*10+2)).take 4=[I (v.s i).peer.id,I (v.s i).peer.epoch,.d (.sl 7 ((v.s i).peer.log.map ATxn.row)),I (v.s i).peer.done]:=by
  rcases i with _ | _ | _ | i<;>first | rfl | omega
theorem Nd (v:CW) (k i:Nat) (h:i < 3):(wC v k).getD (i*10+4) .any=.d (.sl 7 ((v.s i).peer.log.map ATxn.row)):=by
  rcases i with _ | _ | _ | i<;>first | rfl | omega
theorem LN (v:CW) (k i:Nat) (h:i < 3):((wC v k).drop (i*10+6)).take 3=[I (v.s i).tree.zxid,.d (.sl 9 ((v.s i).tree.nodes.map ANode.row)),.d (.sl 1 ((v.s i).tree.sessions.map cO))]:=by
  rcases i with _ | _ | _ | i<;>first | rfl | omega
theorem cgTz (v:CW) (k i:Nat) (h:i < 3):(wC v k).getD (i*10+6) .any=I (v.s i).tree.zxid:=by
  rcases i with _ | _ | _ | i<;>first | rfl | omega
theorem MN (v:CW) (k i:Nat) (h:i < 3):(wC v k).getD (i*10+9) .any=.d (.sl 3 ((v.s i).watches.map AWatch.row)):=by
  rcases i with _ | _ | _ | i<;>first | rfl | omega
theorem cgSv (v:CW) (k i:Nat) (h:i < 3):((wC v k).drop (i*10)).take 10=[.d (.bool (v.s i).up),.d (.sl 3 ((v.s i).disk.files.map AFile.row)),I (v.s i).peer.id,I (v.s i).peer.epoch,.d (.sl 7 ((v.s i).peer.log.map ATxn.row)),I (v.s i).peer.done,I (v.s i).tree.zxid,.d (.sl 9 ((v.s i).tree.nodes.map ANode.row)),.d (.sl 1 ((v.s i).tree.sessions.map cO)),.d (.sl 3 ((v.s i).watches.map AWatch.row))]:=by
  rcases i with _ | _ | _ | i<;>first | rfl | omega
theorem cgCl (v:CW) (k i:Nat) (h:i < 16):((wC v k).drop (30+i*3)).take 3=[I (v.c i).session,I (v.c i).seen,.d (.sl 3 ((v.c i).cache.map AEntry.row))]:=by
  rcases i with _ | _ | _ | _ | _ | _ | _ | _ | _ | _ | _ | _ | _ | _ | _ | _ | i<;>first | rfl | omega
theorem ND (v:CW) (k i:Nat) (h:i < 16):(wC v k).getD (30+i*3) .any=I (v.c i).session:=by
  rcases i with _ | _ | _ | _ | _ | _ | _ | _ | _ | _ | _ | _ | _ | _ | _ | _ | i<;>first | rfl | omega
theorem csL (v:CW) (k:Nat):∀ l:Int,(wC v k).set 78 (I l)=wC (v.setL l) k:=by
  intro l;rfl
theorem csDe (v:CW) (k:Nat):∀ l:Int,(wC v k).set 83 (I l)=wC (v.setD l) k:=by
  intro l;rfl
theorem csN (v:CW) (k:Nat):∀ q n:Nat,(wC v k).set 82 (.osl q 7 0 n)=wC (v.setN n) q:=by
  intro q n;rfl
theorem csF (v:CW) (k i:Nat) (h:i < 3):∀ b:Bool,(wC v k).set (79+i) (B b)=wC (v.setF i b) k:=by
  intro b;rcases i with _ | _ | _ | i<;>first | rfl | omega
theorem csFs (v:CW) (k:Nat):spl (wC v k) [B false,B false,B false] 79=wC v.noF k:=by
  rfl
theorem MG (v:CW) (k i:Nat) (h:i < 3):∀ l:List AWatch,(wC v k).set (i*10+9) (.d (.sl 3 (l.map AWatch.row)))=wC (v.setS i ⟨(v.s i).up,(v.s i).disk,(v.s i).peer,(v.s i).tree,l⟩) k:=by
  intro l;rcases i with _ | _ | _ | i<;>first | rfl | omega
theorem csSv (v:CW) (k i:Nat) (h:i < 3):∀ x:AServer,spl (wC v k) (svC x) (i*10)=wC (v.setS i x) k:=by
  intro x;rcases i with _ | _ | _ | i<;>first | rfl | omega
theorem csCl (v:CW) (k i:Nat) (h:i < 16):∀ x:AClient,spl (wC v k) (clC x) (30+i*3)=wC (v.setC i x) k:=by
  intro x;rcases i with _ | _ | _ | _ | _ | _ | _ | _ | _ | _ | _ | _ | _ | _ | _ | _ | i<;>first | rfl | omega
theorem F5 (v:CW) (i:Nat) (x:AServer):(v.setS i x).s i=x:=if_pos rfl
theorem Nt (v:CW) (k i:Nat) (h:i < 3):List.take 10 (List.drop (i*10) (List.take 30 (wC v k)))=[.d (.bool (v.s i).up),.d (.sl 3 ((v.s i).disk.files.map AFile.row)),I (v.s i).peer.id,I (v.s i).peer.epoch,.d (.sl 7 ((v.s i).peer.log.map ATxn.row)),I (v.s i).peer.done,I (v.s i).tree.zxid,.d (.sl 9 ((v.s i).tree.nodes.map ANode.row)),.d (.sl 1 ((v.s i).tree.sessions.map cO)),.d (.sl 3 ((v.s i).watches.map AWatch.row))]:=by
  rcases i with _ | _ | _ | i<;>first | rfl | omega
theorem Na (v:CW) (k i:Nat) (h:i < 16) (a b:Int) (l:List AEntry):(wC v k).take (30+i*3)++[.d (.int .i64 a),.d (.int .i64 b),.d (.sl 3 (l.map AEntry.row))]++(wC v k).drop (30+i*3+3)=wC (v.setC i ⟨a,b,l⟩) k:=csCl v k i h ⟨a,b,l⟩
theorem cwSv (v:CW) (k i:Nat) (h:i < 3) (up:Bool) (d:List AFile) (id ep:Int) (log:List ATxn) (done tz:Int) (nd:List ANode) (se:List Int) (wt:List AWatch):(wC v k).take (i*10)++[.d (.bool up),.d (.sl 3 (d.map AFile.row)),.d (.int .i64 id),.d (.int .i64 ep),.d (.sl 7 (log.map ATxn.row)),.d (.int .i64 done),.d (.int .i64 tz),.d (.sl 9 (nd.map ANode.row)),.d (.sl 1 (se.map cO)),.d (.sl 3 (wt.map AWatch.row))]++(wC v k).drop (i*10+10)=wC (v.setS i ⟨up,⟨d⟩,⟨id,ep,log,done⟩,⟨tz,nd,se⟩,wt⟩) k:=csSv v k i h ⟨up,⟨d⟩,⟨id,ep,log,done⟩,⟨tz,nd,se⟩,wt⟩
theorem cwFs (v:CW) (k:Nat):(wC v k).take 79++[.d (.bool false),.d (.bool false),.d (.bool false)]++(wC v k).drop 82=wC v.noF k:=csFs v k
theorem NL (v:CW) (i:Nat) (x:AServer):(v.setS i x).c=v.c:=rfl
theorem Ni (v:CW) (i:Nat) (x:AServer):(v.setS i x).leader=v.leader:=rfl
theorem NE (v:CW) (i:Nat) (x:AServer):(v.setS i x).f=v.f:=rfl
theorem NO (v:CW) (i:Nat) (x:AServer):(v.setS i x).n=v.n:=rfl
theorem MH (v:CW) (i:Nat) (x:Bool):(v.setF i x).s=v.s:=rfl
theorem MQ (v:CW) (i:Nat) (x:Bool):(v.setF i x).c=v.c:=rfl
theorem M2 (v:CW) (i:Nat) (x:Bool):(v.setF i x).leader=v.leader:=rfl
theorem Nq (v:CW) (i:Nat) (x:Bool):(v.setF i x).n=v.n:=rfl
theorem NC (v:CW) (i:Nat) (x:AClient):(v.setC i x).s=v.s:=rfl
theorem MB (v:CW) (i:Nat) (x:AClient):(v.setC i x).leader=v.leader:=rfl
theorem NH (v:CW) (i:Nat) (x:AClient):(v.setC i x).f=v.f:=rfl
theorem Np (v:CW) (i:Nat) (x:AClient):(v.setC i x).n=v.n:=rfl
theorem ML (v:CW) (x:Int):(v.setL x).s=v.s:=rfl
theorem Nu (v:CW) (x:Int):(v.setL x).c=v.c:=rfl
theorem NB (v:CW) (x:Int):(v.setL x).n=v.n:=rfl
theorem Nb (v:CW) (x:Int):(v.setL x).leader=x:=rfl
theorem Mz (v:CW) (x:Nat):(v.setN x).s=v.s:=rfl
theorem NA (v:CW) (x:Nat):(v.setN x).c=v.c:=rfl
theorem Nh (v:CW) (x:Nat):(v.setN x).leader=v.leader:=rfl
theorem MS (v:CW) (x:Nat):(v.setN x).n=x:=rfl
theorem JO (v:CW):v.noF.s=v.s:=rfl
theorem IV (v:CW):v.noF.c=v.c:=rfl
theorem IT (v:CW):v.noF.n=v.n:=rfl
theorem I4 (v:CW):v.noF.leader=v.leader:=rfl
attribute [go_sem] LW cgL cgDe cgN cgF cgUp Lo Ll Nd LN cgTz MN cgSv cgCl ND csL csDe csN csF MG Na cwSv cwFs F5 NL Ni NE NO MH MQ M2 Nq NC MB NH Np ML Nu NB Nb Mz NA Nh MS JO IV IT I4
attribute [go_sem] Nt Nat.add_zero Nat.mul_one
theorem rR (f:Nat→Nat) (v:CW) (k:Nat):renL f (wC v k)=wC v (f k):=rfl
theorem B2 (n:Nat) (v:CW) (k:Nat) (h:k < n):inL n (wC v k):=by
  unfold wC svC clC
  simp only [List.cons_append,List.nil_append,inL,inV]
  simp only [and_true,true_and]
  exact h
theorem wV (v:CW) (k:Nat):(wC v k)[82]?=some (.osl k 7 0 v.n):=rfl
theorem n9 (v:CW) (k q:Nat):(wC v k).set 82 (.osl q 7 0 v.n)=wC v q:=rfl
theorem ag.world {hp:List ABlk} {cs:List AV} {rs:List (List DV)} {v:CW} (h0:hp[0]?=some (.cells (wC v 1))) (h1:hp[1]?=some (.rows 7 rs)) (hc:cs[11]?=some (.d (.sc (.slice none 0 0)))) (hin:ck cs) :
    ag 2 hp (.agg cs) (cu (.agg (cs.set 11 (.osl 3 3 0 0))) [.cells (wC v 2),.dead,.rows 7 rs,.rows 3 []]):=by
  have hl0:0 < hp.length:=(List.getElem?_eq_some_iff.1 h0).1
  have hl1:1 < hp.length:=(List.getElem?_eq_some_iff.1 h1).1
  have s1:=aG.moveOwnC 0 82 (np:=2) (nt:=1) (env:=[(0,AV.agg cs)]) h0 (wV v 1) h1 (by simp) (by decide)
  rw [n9] at s1
  have s2:=aG.nilOwnA 0 11 3 (np:=2) (nt:=1) (env:=[(0,AV.agg cs)]) (hp:=(hp.set 1 .dead).set 0 (.cells (wC v hp.length))++[.rows 7 rs]) (cs:=cs) rfl hc
  refine ag.of_simp (v':=.agg (cs.set 11 (.osl 3 3 0 0))) (hp':=[.cells (wC v 2),.dead,.rows 7 rs,.rows 3 []]) (aG.trans s1 (aG.trans s2 (aG.frame [0,1,hp.length,hp.length+1] rfl (fun i hi=>?_) ?_ (fun k hk=>?_) ?_ ?_))) (ag.same ⟨rfl,rfl⟩)
  · simp only [List.mem_cons,List.not_mem_nil,or_false] at hi
    simp only [List.length_append,List.length_set,List.length_cons,List.length_nil]
    omega
  · simp only [List.nodup_cons,List.mem_cons,List.not_mem_nil,or_false,not_or,not_false_eq_true,List.nodup_nil,and_true]
    omega
  · rcases k with _ | _ | k
    · rfl
    · rfl
    · omega
  · refine ⟨⟨?_,?_⟩,trivial⟩
    · simp only [bU,if_true,List.length_append,List.length_set,List.length_cons,List.length_nil]
      simp only [renV]
      rw [xq,(dz _ cs hin).1]
      rfl
    · exact BF _ _ _ _ (pu (Nat.zero_le _) _ (dz (fun k=>k) cs hin).2) (by show 3 < 4;decide)
  · refine ⟨.inr ⟨?_,?_⟩,.inl rfl,.inr ⟨?_,?_⟩,.inr ⟨?_,?_⟩,trivial⟩
    · show ((((hp.set 1 .dead).set 0 (ABlk.cells (wC v hp.length))++[ABlk.rows 7 rs])++[ABlk.rows 3 []])[0]?)=some (ABlk.cells (renL _ (wC v 2)))
      rw [rR]
      rw [List.getElem?_append_left (by simp),List.getElem?_append_left (by simp;omega),List.getElem?_set_self (by simp;omega)]
      rfl
    · exact B2 _ _ _ (show 2 < 4 by decide)
    · show ((((hp.set 1 ABlk.dead).set 0 (ABlk.cells (wC v hp.length))++[ABlk.rows 7 rs])++[ABlk.rows 3 []])[hp.length]?)=_
      rw [List.getElem?_append_left (by simp),List.getElem?_append_right (by simp)]
      simp [renB]
    · trivial
    · show ((((hp.set 1 ABlk.dead).set 0 (ABlk.cells (wC v hp.length))++[ABlk.rows 7 rs])++[ABlk.rows 3 []])[hp.length+1]?)=_
      rw [List.getElem?_append_right (by simp)]
      simp [renB]
    · trivial
theorem LU (n:Nat) (v:CW) (k:Nat):inL n (wC v k)=(k < n):=by
  unfold wC svC clC
  simp only [List.cons_append,List.nil_append,inL,inV]
  simp only [and_true,true_and]
theorem gF:∀ (ks:List Nat) (hp:List ABlk) (j:Nat),j∉ks→(killIds ks hp)[j]?=hp[j]?
  | [],hp,j,_=>rfl
  | k::r,hp,j,h=>by
    rw [killIds,gF r _ j (fun hh=>h (List.mem_cons_of_mem _ hh)),List.getElem?_set_ne (fun e=>h (by rw [e];exact List.mem_cons_self ..))]
theorem k8:∀ (ks:List Nat) (hp:List ABlk),(killIds ks hp).length=hp.length
  | [],hp=>rfl
  | k::r,hp=>by rw [killIds,k8 r,List.length_set]
theorem ag.data2 {hp:List ABlk} {v y:AV} {W:CW} {rs:List (List DV)} (h0:hp[0]?=some (.cells (wC W 1))) (h1:hp[1]?=some (.rows 7 rs)) (hi:∀ j,j∈dQ v→2≤j) (hf:bS hp v) (hn:bY (bf hp v)) (hc:dh (bf hp v) y) (hy:bY y) :
    ag 2 hp v (cu y [.cells (wC W 1),.rows 7 rs]):=by
  have hl0:0 < hp.length:=(List.getElem?_eq_some_iff.1 h0).1
  have hl1:1 < hp.length:=(List.getElem?_eq_some_iff.1 h1).1
  have hlk:=k8 (dQ v) hp
  have s1:=aG.frzW 0 (np:=2) (nt:=1) (env:=[(0,v)]) (hp:=hp) (v:=v) (fun j hj=>by
    refine ⟨fun hh=>by have:=hi j hh;omega,?_⟩
    rcases j with _ | _ | j
    · exact ⟨_,h0,by simp⟩
    · exact ⟨_,h1,by simp⟩
    · omega) rfl hf hn
  have hren:=jd (mAt [0,1] (killIds (dQ v) hp).length) (bf hp v) hn
  refine ag.of_simp (v':=bf hp v) (hp':=[.cells (wC W 1),.rows 7 rs]) (aG.trans s1 (aG.frame [0,1] rfl (fun i hi=>?_) (by decide) (fun k hk=>?_) ?_ ?_)) (ag.coe hc (ag.same ⟨rfl,rfl⟩))
  · simp only [List.mem_cons,List.not_mem_nil,or_false] at hi
    omega
  · rcases k with _ | _ | k
    · rfl
    · rfl
    · omega
  · refine ⟨⟨?_,qI (Nat.zero_le _) _ hren.2⟩,trivial⟩
    simp only [bU,if_true]
    exact hren.1.symm
  · refine ⟨.inr ⟨?_,?_⟩,.inr ⟨?_,trivial⟩,trivial⟩
    · show (killIds (dQ v) hp)[0]?=some (.cells (renL _ (wC W 1)))
      rw [rR,gF _ _ _ (fun hh=>by have:=hi 0 hh;omega),h0]
      rfl
    · exact B2 _ _ _ (show 1 < 2 by decide)
    · show (killIds (dQ v) hp)[1]?=some (.rows 7 rs)
      rw [gF _ _ _ (fun hh=>by have:=hi 1 hh;omega),h1]
theorem JH (f:Nat→Nat) (v:CW) (k:Nat):renL f (List.take 30 (wC v k))=List.take 30 (wC v k):=rfl
theorem LB (n:Nat) (v:CW) (k:Nat):inL n (List.take 30 (wC v k))=True:=by
  refine eq_true ?_
  show inL n (svC (v.s 0)++(svC (v.s 1)++svC (v.s 2)))
  unfold svC
  simp only [List.cons_append,List.nil_append,inL,inV,and_self]
attribute [go_sem] rR LU JH LB
theorem ag.data1 {hp:List ABlk} {v y:AV} {sz:Nat} {rs:List (List DV)} (h0:hp[0]?=some (.rows sz rs)) (hi:∀ j,j∈dQ v→1≤j) (hf:bS hp v) (hn:bY (bf hp v)) (hc:dh (bf hp v) y) (hy:bY y) :
    ag 1 hp v (cu y [.rows sz rs]):=by
  have hl0:0 < hp.length:=(List.getElem?_eq_some_iff.1 h0).1
  have hlk:=k8 (dQ v) hp
  have s1:=aG.frzW 0 (np:=1) (nt:=1) (env:=[(0,v)]) (hp:=hp) (v:=v) (fun j hj=>by
    refine ⟨fun hh=>by have:=hi j hh;omega,?_⟩
    rcases j with _ | j
    · exact ⟨_,h0,by simp⟩
    · omega) rfl hf hn
  have hren:=jd (mAt [0] (killIds (dQ v) hp).length) (bf hp v) hn
  refine ag.of_simp (v':=bf hp v) (hp':=[.rows sz rs]) (aG.trans s1 (aG.frame [0] rfl (fun i hi=>?_) (by decide) (fun k hk=>?_) ?_ ?_)) (ag.coe hc (ag.same ⟨rfl,rfl⟩))
  · simp only [List.mem_cons,List.not_mem_nil,or_false] at hi
    omega
  · rcases k with _ | k
    · rfl
    · omega
  · refine ⟨⟨?_,qI (Nat.zero_le _) _ hren.2⟩,trivial⟩
    simp only [bU,if_true]
    exact hren.1.symm
  · refine ⟨.inr ⟨?_,trivial⟩,trivial⟩
    show (killIds (dQ v) hp)[0]?=some (.rows sz rs)
    rw [gF _ _ _ (fun hh=>by have:=hi 0 hh;omega),h0]
set_option maxHeartbeats 4000000 in
theorem JS (c:AClient) (l:List ANote) (h:c.cache.length≤100000) (hl:l.length*32≤140737488351232) (hr:aY (c.cache.map AEntry.path)) :
    ab Tryz.prog [.rows 3 (l.map ANote.row)] 187 [c.av,.osl 0 3 0 l.length] (cu (AClient.av ⟨c.session,c.seen,dU c.session c.cache l⟩) [.rows 3 (l.map ANote.row)]):=by
  have hb:c.cache.length*40≤140737488351232:=by omega
  refine zJ Tryz.func187 Tryz.ntmps187 Tryz.results187 ?_;simp only [go_sem]
  (refine zW qw (z1 (nF c hb)) trivial (z1 ?_)<;>(repeat with_reducible intro hc))
  refine AWP.loopB (ι:=Nat) (fun k=>k≤l.length) (fun k=>l.length - k) [2,4,11,12] (fun k=>[(13,I k)]) (fun k=>[.rows 3 (l.map ANote.row),.cells [I c.session,I c.seen,.osl 3 3 0 (dU c.session c.cache (l.take k)).length],.cells [I 0,I 0,.d (.sc (.slice none 0 0))],.rows 3 ((dU c.session c.cache (l.take k)).map AEntry.row)]) 0 ?_ ?_ ?_
  · omega
  · simp only [go_sem,AY];exact zSm trivial
  intro k hk
  obtain ⟨hr1,hn1⟩:=xr (s:=c.session) (l.take k) hr
  have hb1:(dU c.session c.cache (l.take k)).length*40≤140737488351232:=by omega
  have hpl:=uI (l:=dU c.session c.cache (l.take k)) (key:=(l.getD k default).event.path)
  simp only [go_sem]
  by_cases hm:(l.getD k default).event.path∈(dU c.session c.cache (l.take k)).map AEntry.path
  · have hlt:=u6 hr1 hm
    (refine zW qw (z2 ((qz ⟨c.session,c.seen,dU c.session c.cache (l.take k)⟩ (l.getD k default).event.path hb1 hr1).re (by simp only;rw [decide_eq_true hm])) (ow (zr ((dU c.session c.cache (l.take k)).map AEntry.row) (place ((dU c.session c.cache (l.take k)).map AEntry.path) (l.getD k default).event.path) (by simpa using hlt) (by simpa using hb1)))) (zx @ANote.rgetD @bx) (z3 ?_ ?_ ?_)<;>(repeat with_reducible intro hc))
    · refine ⟨k+1,by omega,by omega,?_⟩
      rw [jR _ _ _ _ (by assumption),xj (fun h=>hc.elim (fun x=>x h.1) (fun x=>h.2 x))]
      exact zFr [0,1,2,3] trivial
    · refine ⟨k+1,by omega,by omega,?_⟩
      rw [jR _ _ _ _ (by assumption),tL (by assumption),yB hr1 hm]
      have hel:=dI _ _ hlt
      exact zFr [0,1,2,5] @hel
    · have e:k=l.length:=by omega
      subst e
      simp only [List.take_length]
      (refine zO ?_ ?_;(focus ((try simp (disch:=omega) only [go_sem,aa])<;>fail));simp (disch:=omega) only [go_sem,aa];refine ag.data1 rfl (by intro j hj;simp only [go_sem,List.mem_append,List.mem_cons,List.not_mem_nil,or_false,false_or,List.nil_append,List.append_nil,List.cons_append] at hj;omega) ?_ ?_ ?_ ?_<;>simp (disch:=omega) only [go_sem,aa,I,B,S,zj,Nat.le_refl])
  · (refine zW qw (z1 ((qz ⟨c.session,c.seen,dU c.session c.cache (l.take k)⟩ (l.getD k default).event.path hb1 hr1).re (by simp only;rw [decide_eq_false hm]))) @ANote.rgetD (z3 ?_ ?_ ?_)<;>(repeat with_reducible intro hc))
    · refine ⟨k+1,by omega,by omega,?_⟩
      rw [jR _ _ _ _ (by assumption),xj (fun h=>hc.elim (fun x=>x h.1) (fun x=>h.2 x))]
      exact zFr [0,1,2,3] trivial
    · refine ⟨k+1,by omega,by omega,?_⟩
      rw [jR _ _ _ _ (by assumption),tL (by assumption),yN hm]
      exact zFr [0,1,2,3] trivial
    · have e:k=l.length:=by omega
      subst e
      simp only [List.take_length]
      (refine zO ?_ ?_;(focus ((try simp (disch:=omega) only [go_sem,aa])<;>fail));simp (disch:=omega) only [go_sem,aa];refine ag.data1 rfl (by intro j hj;simp only [go_sem,List.mem_append,List.mem_cons,List.not_mem_nil,or_false,false_or,List.nil_append,List.append_nil,List.cons_append] at hj;omega) ?_ ?_ ?_ ?_<;>simp (disch:=omega) only [go_sem,aa,I,B,S,zj,Nat.le_refl])
theorem qUd0:Pls [Plan.takes [0,1,2,3,4,5,6,7,8,10,11,9,12,13] .done]:=pls _
def kv (ns:List ANote) (c:AClient):AClient:=⟨c.session,c.seen,dU c.session c.cache ns⟩
def CW.told (v:CW) (ns:List ANote) (k:Nat):CW:={ v with c:=fun j=>if j < k then kv ns (v.c j) else v.c j }
theorem Js (v:CW) (ns:List ANote) (k:Nat):(v.told ns k).c k=v.c k:=if_neg (Nat.lt_irrefl k)
theorem DU (v:CW) (ns:List ANote):v.told ns 0=v:=by
  unfold CW.told
  have:(fun j=>if j < 0 then kv ns (v.c j) else v.c j)=v.c:=funext fun j=>if_neg (Nat.not_lt_zero j)
  rw [this]
theorem CF (v:CW) (ns:List ANote) (k:Nat):(v.told ns k).setC k (kv ns (v.c k))=v.told ns (k+1):=by
  unfold CW.told CW.setC
  have:(fun j=>if j=k then kv ns (v.c k) else if j < k then kv ns (v.c j) else v.c j)=fun j=>if j < k+1 then kv ns (v.c j) else v.c j:=funext fun j=>by
    by_cases e:j=k
    · subst e;rw [if_pos rfl,if_pos (Nat.lt_succ_self j)]
    · rw [if_neg e]
      by_cases h:j < k
      · rw [if_pos h,if_pos (by omega)]
      · rw [if_neg h,if_neg (by omega)]
  simp only [this]
set_option maxHeartbeats 4000000 in
theorem BG (v:CW) (rs:List (List DV)) (ns:List ANote) (hc:∀ i,i < 16→(v.c i).cache.length≤100000∧aY ((v.c i).cache.map AEntry.path)) (hl:ns.length*32≤140737488351232) :
    ab Tryz.prog [.cells (wC v 1),.rows 7 rs,.rows 3 (ns.map ANote.row)] 116 [.ptr 0 0,.osl 2 3 0 ns.length] (cu (.tup []) [.cells (wC (v.told ns 16) 1),.rows 7 rs,.rows 3 (ns.map ANote.row)]):=by
  refine zJ Tryz.func116 Tryz.ntmps116 Tryz.results116 ?_;simp only [go_sem]
  (refine zW qw zn trivial (z1 ?_)<;>(repeat with_reducible intro hc))
  refine AWP.loopB (ι:=Nat) (fun k=>k≤16) (fun k=>16 - k) [0,1] (fun k=>[(5,I k)]) (fun k=>[.cells (wC (v.told ns k) 1),.rows 7 rs,.rows 3 (ns.map ANote.row)]) 0 ?_ ?_ ?_
  · omega
  · simp only [go_sem,DU];exact zSm trivial
  intro k hk
  simp only [go_sem]
  by_cases hk2:k < 16
  · obtain ⟨c1,c2⟩:=hc k hk2
    have ht:=JS (v.c k) ns c1 hl c2
    (refine zW qw (z2 qUd0 (ac [2] ht)) @Js (z1 ?_)<;>(repeat with_reducible intro hc))
    refine ⟨k+1,by omega,by omega,?_⟩
    rw [←CF]
    exact zFr [0,1,2] @kv.eq_1
  · have e:k=16:=by omega
    subst e
    (refine zW qw zn trivial (z1 ?_)<;>(repeat with_reducible intro hc))
    (refine zO ?_ ?_;(focus ((try simp (disch:=omega) only [go_sem,aa])<;>fail));simp (disch:=omega) only [go_sem,aa];refine ag.of_simp ?_ (ag.same ⟨rfl,rfl⟩);refine zV [0,1,2] rfl rfl rfl rfl ?_ ?_<;>simp (disch:=omega) only [go_sem,aa,true_or,or_true])
theorem MY:Pls [Plan.takes [0,1,2,3,4,5,6] .done]:=pls _
attribute [go_sem] Tryz.ntmps108 Tryz.results108
def cw (w:AWorld):CW:=⟨w.s,w.c,w.leader,w.f,w.done.length,w.deeds⟩
theorem vk {w:AWorld} {i:Nat} (h:i < w.sv.length) (x:AServer):(cw w).setS i x=cw (w.setS i x):=by
  have:(w.setS i x).s=fun j=>if j=i then x else w.s j:=funext fun j=>dO h x j
  unfold cw CW.setS
  rw [this];rfl
theorem Ka {w:AWorld} {i:Nat} (h:i < w.cl.length) (x:AClient):(cw w).setC i x=cw (w.setC i x):=by
  have:(w.setC i x).c=fun j=>if j=i then x else w.c j:=funext fun j=>yW h x j
  unfold cw CW.setC
  rw [this];rfl
theorem vL {w:AWorld} {i:Nat} (h:i < w.fl.length) (x:Bool):(cw w).setF i x=cw (w.setF i x):=by
  have:(w.setF i x).f=fun j=>if j=i then x else w.f j:=funext fun j=>oL h x j
  unfold cw CW.setF
  rw [this];rfl
theorem pq (w:AWorld):((cw w).setL (-1)).noF=cw w.resign:=by
  have:w.resign.f=fun _=>false:=funext fun j=>xh w j
  unfold cw CW.setL CW.noF
  rw [this];rfl
def avN (r:AReply) (nt:AV):AV:=.agg [I r.code,I r.zxid,S r.path,S r.data,I r.stat.czxid,I r.stat.mzxid,I r.stat.pzxid,I r.stat.version,I r.stat.cversion,I r.stat.owner,I r.stat.kids,nt]
abbrev cH (w:AWorld) (r:AReply):AV→List ABlk→Prop:=cu (avN r (.osl 3 3 0 r.notes.length)) [.cells (wC (cw w) 2),.dead,.rows 7 (w.done.map ATxn.row),.rows 3 (r.notes.map ANote.row)]
abbrev inW (w:AWorld):List ABlk:=[.cells (wC (cw w) 1),.rows 7 (w.done.map ATxn.row)]
theorem ag.world0 {hp:List ABlk} {w:AWorld} {r:AReply} (hn:r.notes=[]) (h0:hp[0]?=some (.cells (wC (cw w) 1))) (h1:hp[1]?=some (.rows 7 (w.done.map ATxn.row))) :
    ag 2 hp (avN r (.d (.sc (.slice none 0 0)))) (cH w r):=by
  have h:=ag.world (cs:=[I r.code,I r.zxid,S r.path,S r.data,I r.stat.czxid,I r.stat.mzxid,I r.stat.pzxid,I r.stat.version,I r.stat.cversion,I r.stat.owner,I r.stat.kids,.d (.sc (.slice none 0 0))]) h0 h1 rfl (by simp [ck,bY])
  unfold cH
  rw [hn]
  exact h
theorem ag.worldV {hp:List ABlk} {w:AWorld} {r:AReply} {v:CW} (hv:v=cw w) (hn:r.notes=[]) (h0:hp[0]?=some (.cells (wC v 1))) (h1:hp[1]?=some (.rows 7 (w.done.map ATxn.row))) :
    ag 2 hp (avN r (.d (.sc (.slice none 0 0)))) (cH w r):=by
  subst hv
  exact ag.world0 hn h0 h1
theorem ag.worldM {hp:List ABlk} {w:AWorld} {r:AReply} {v:CW} (p q:Nat) (hv:v=cw w) (h0:hp[0]?=some (.cells (wC v p))) (h1:hp[p]?=some (.rows 7 (w.done.map ATxn.row))) (hp0:p≠0) (hq:hp[q]?=some (.rows 3 (r.notes.map ANote.row))) (hq0:q≠0∧q≠1∧q≠p) :
    ag 2 hp (avN r (.osl q 3 0 r.notes.length)) (cH w r):=by
  subst hv
  have hl0:0 < hp.length:=(List.getElem?_eq_some_iff.1 h0).1
  have hlp:p < hp.length:=(List.getElem?_eq_some_iff.1 h1).1
  have hlq:q < hp.length:=(List.getElem?_eq_some_iff.1 hq).1
  have s1:=aG.moveOwnC 0 82 (np:=2) (nt:=1) (env:=[(0,avN r (.osl q 3 0 r.notes.length))]) h0 (wV (cw w) p) h1 (by simp) hp0
  rw [n9] at s1
  refine ag.of_simp (v':=avN r (.osl 3 3 0 r.notes.length)) (hp':=[.cells (wC (cw w) 2),.dead,.rows 7 (w.done.map ATxn.row),.rows 3 (r.notes.map ANote.row)]) (aG.trans s1 (aG.frame [0,1,hp.length,q] rfl (fun i hi=>?_) ?_ (fun k hk=>?_) ?_ ?_)) (ag.same ⟨rfl,rfl⟩)
  · simp only [List.mem_cons,List.not_mem_nil,or_false] at hi
    simp only [List.length_append,List.length_set,List.length_cons,List.length_nil]
    omega
  · simp only [List.nodup_cons,List.mem_cons,List.not_mem_nil,or_false,not_or,not_false_eq_true,List.nodup_nil,and_true]
    omega
  · rcases k with _ | _ | k
    · rfl
    · rfl
    · omega
  · exact ⟨⟨rfl,⟨trivial,trivial,trivial,trivial,trivial,trivial,trivial,trivial,trivial,trivial,trivial,(show 3 < 4 by decide),trivial⟩⟩,trivial⟩
  · refine ⟨.inr ⟨?_,?_⟩,.inl rfl,.inr ⟨?_,trivial⟩,.inr ⟨?_,trivial⟩,trivial⟩
    · show (((hp.set p ABlk.dead).set 0 (ABlk.cells (wC (cw w) hp.length))++[ABlk.rows 7 (w.done.map ATxn.row)])[0]?)=some (ABlk.cells (renL _ (wC (cw w) 2)))
      rw [rR,List.getElem?_append_left (by simp;omega),List.getElem?_set_self (by simp;omega)]
      rfl
    · exact B2 _ _ _ (show 2 < 4 by decide)
    · show (((hp.set p ABlk.dead).set 0 (ABlk.cells (wC (cw w) hp.length))++[ABlk.rows 7 (w.done.map ATxn.row)])[hp.length]?)=_
      rw [List.getElem?_append_right (by simp)]
      simp [renB]
    · show (((hp.set p ABlk.dead).set 0 (ABlk.cells (wC (cw w) hp.length))++[ABlk.rows 7 (w.done.map ATxn.row)])[q]?)=_
      rw [List.getElem?_append_left (by simp;omega),List.getElem?_set_ne (by omega),List.getElem?_set_ne (by omega),hq]
      rfl
theorem cw_s (w:AWorld):(cw w).s=w.s:=rfl
theorem cw_c (w:AWorld):(cw w).c=w.c:=rfl
theorem cw_l (w:AWorld):(cw w).leader=w.leader:=rfl
theorem cw_f (w:AWorld):(cw w).f=w.f:=rfl
theorem cw_n (w:AWorld):(cw w).n=w.done.length:=rfl
theorem cw_d (w:AWorld):(cw w).deeds=w.deeds:=rfl
attribute [go_sem] cw_s cw_c cw_l cw_f cw_n cw_d
structure WL (w:AWorld):Prop where
  sl:w.sv.length=3
  fl:w.fl.length=3
  cl:w.cl.length=16
theorem JR {w:AWorld} (h:w.sv.length=3) {i:Nat} (hi:i < 3) (x:AServer):(cw w).setS i x=cw (w.setS i x):=vk (by omega) x
theorem cwF1 {w:AWorld} (h:w.fl.length=3) {i:Nat} (hi:i < 3) (b:Bool):(cw w).setF i b=cw (w.setF i b):=vL (by omega) b
theorem Nn {w:AWorld} (h:w.fl.length=3) {i:Nat} (hi:i < 3) (x:AServer) (j:Nat) (b:Bool):(cw (w.setS j x)).setF i b=cw ((w.setS j x).setF i b):=vL (w:=w.setS j x) (show i < w.fl.length by omega) b
theorem LF {w:AWorld} (h:w.cl.length=16) {i:Nat} (hi:i < 16) (x:AClient):(cw w).setC i x=cw (w.setC i x):=Ka (by omega) x
set_option maxHeartbeats 8000000 in
theorem FU (w:AWorld) (i:Nat) (keep:Int) (hi:i < 3) (hw:WL w) (hs:(w.s i).wf) (ii:Int) (hii:ii=(i:Int)):ab Tryz.prog (inW w) 59 [.ptr 0 0,I ii,I keep] (cH (dN w i keep).1 (dN w i keep).2):=by
  subst hii
  have hct:=HM (w.s i) keep hs
  obtain ⟨e1,e2,e3⟩:=hw
  unfold dN
  by_cases hu:(w.s i).up=false
  · rw [if_pos hu]
    unfold inW cH
    refine zJ Tryz.func59 Tryz.ntmps59 Tryz.results59 ?_;simp only [go_sem]
    (refine zW qw zn @hu (z1 ?_)<;>(repeat with_reducible intro hc))
    all_goals first | (exfalso;omega) | skip
    (refine zO ?_ ?_;(focus ((try simp (disch:=omega) only [go_sem,aa])<;>fail));simp (disch:=omega) only [go_sem,aa];exact ag.worldV (r:=noR 14) (rfl) rfl rfl rfl)
  rw [if_neg hu]
  have hu':(w.s i).up=true:=by simpa using hu
  generalize bw (w.s i) keep=q at hct ⊢
  obtain ⟨x,e⟩:=q
  simp only at hct ⊢
  by_cases he:e=0
  case neg=>
    rw [if_pos he]
    unfold inW cH
    refine zJ Tryz.func59 Tryz.ntmps59 Tryz.results59 ?_;simp only [go_sem]
    (refine zW qw (z1 hct) trivial (z2 ?_ ?_)<;>(repeat with_reducible intro hc))
    all_goals first | (exfalso;omega) | (exfalso;exact absurd (by assumption) hu) | skip
    (refine zO ?_ ?_;(focus ((try simp (disch:=omega) only [go_sem,aa])<;>fail));simp (disch:=omega) only [go_sem,aa];exact ag.worldV (r:=noR e) (rfl) rfl rfl rfl)
  subst he
  rw [if_neg (fun h=>h rfl)]
  have h1:((cw w).setS i x).setF i false=cw ((w.setS i x).setF i false):=by rw [vk (by omega),vL (by show i < w.fl.length;omega)]
  by_cases hl:w.leader=(i:Int)
  · rw [if_pos hl]
    unfold inW cH
    refine zJ Tryz.func59 Tryz.ntmps59 Tryz.results59 ?_;simp only [go_sem]
    (refine zW qw (z2 (ic Tryz.func108) hct) @hl (z2 ?_ ?_)<;>(repeat with_reducible intro hc))
    all_goals first | (exfalso;omega) | (exfalso;exact absurd (by assumption) hu) | skip
    (refine zO ?_ ?_;(focus ((try simp (disch:=omega) only [go_sem,aa])<;>fail));simp (disch:=omega) only [go_sem,aa];exact ag.worldV (r:=noR 0) ((congrArg (fun v:CW=>(v.setL (-1)).noF) h1).trans (pq _)) rfl rfl rfl)
  · rw [if_neg hl]
    unfold inW cH
    refine zJ Tryz.func59 Tryz.ntmps59 Tryz.results59 ?_;simp only [go_sem]
    (refine zW qw (z2 (ic Tryz.func108) hct) trivial (z2 ?_ ?_)<;>(repeat with_reducible intro hc))
    all_goals first | (exfalso;omega) | (exfalso;exact absurd (by assumption) hu) | skip
    (refine zO ?_ ?_;(focus ((try simp (disch:=omega) only [go_sem,aa])<;>fail));simp (disch:=omega) only [go_sem,aa];exact ag.worldV (r:=noR 0) (h1) rfl rfl rfl)
set_option maxHeartbeats 8000000 in
theorem M4 (w:AWorld) (i:Nat) (hi:i < 3) (hw:WL w) (hs:(w.s i).wf) (ii:Int) (hii:ii=(i:Int)):ab Tryz.prog (inW w) 58 [.ptr 0 0,I ii] (cH (upW w i).1 (upW w i).2):=by
  subst hii
  have hct:=GX i (w.s i).disk hs.2.1.1 hs.2.1.2
  obtain ⟨e1,e2,e3⟩:=hw
  unfold upW
  by_cases hu:(w.s i).up=true
  · rw [if_pos hu]
    unfold inW cH
    refine zJ Tryz.func58 Tryz.ntmps58 Tryz.results58 ?_;simp only [go_sem]
    (refine zW qw zn @hu (z1 ?_)<;>(repeat with_reducible intro hc))
    all_goals first | (exfalso;omega) | skip
    (refine zO ?_ ?_;(focus ((try simp (disch:=omega) only [go_sem,aa])<;>fail));simp (disch:=omega) only [go_sem,aa];exact ag.worldV (r:=noR 8) (rfl) rfl rfl rfl)
  rw [if_neg hu]
  have hu':(w.s i).up=false:=by simpa using hu
  generalize cD i (w.s i).disk.files=q at hct ⊢
  obtain ⟨x,e⟩:=q
  simp only at hct ⊢
  by_cases he:e=0
  case neg=>
    rw [if_pos he]
    unfold inW cH
    refine zJ Tryz.func58 Tryz.ntmps58 Tryz.results58 ?_;simp only [go_sem]
    (refine zW qw (z2 MY hct) @hu' (z1 ?_)<;>(repeat with_reducible intro hc))
    all_goals first | (exfalso;omega) | skip
    (refine zO ?_ ?_;(focus ((try simp (disch:=omega) only [go_sem,aa])<;>fail));simp (disch:=omega) only [go_sem,aa];exact ag.worldV (r:=noR e) (rfl) rfl rfl rfl)
  subst he
  rw [if_neg (fun h=>h rfl)]
  have h1:(cw w).setS i x=cw (w.setS i x):=vk (by omega) x
  unfold inW cH
  refine zJ Tryz.func58 Tryz.ntmps58 Tryz.results58 ?_;simp only [go_sem]
  (refine zW qw (z2 MY hct) @hu' (z1 ?_)<;>(repeat with_reducible intro hc))
  all_goals first | (exfalso;omega) | skip
  (refine zO ?_ ?_;(focus ((try simp (disch:=omega) only [go_sem,aa])<;>fail));simp (disch:=omega) only [go_sem,aa];exact ag.worldV (r:=noR 0) (h1) rfl rfl rfl)
theorem lO (w:AWorld):ab Tryz.prog (inW w) 18 [.ptr 0 0] (cu (I w.leader) (inW w)):=by
  unfold inW
  refine zJ Tryz.func18 Tryz.ntmps18 Tryz.results18 ?_;simp only [go_sem]
  (refine zW qw zn trivial (z1 ?_)<;>(repeat with_reducible intro hc))
  all_goals first | (exfalso;omega) | skip
  (refine zO ?_ ?_;(focus ((try simp (disch:=omega) only [go_sem,aa])<;>fail));simp (disch:=omega) only [go_sem,aa];refine ag.of_simp ?_ (ag.same ⟨rfl,rfl⟩);refine zV [0,1] rfl rfl rfl rfl ?_ ?_<;>simp (disch:=omega) only [go_sem,aa,true_or,or_true])
theorem A2 (s:AServer) (hw:s.wf):ab Tryz.prog [] 64 [s.av] (cu (.agg [B s.up,.osl 0 3 0 s.disk.files.length,I s.peer.id,I s.peer.epoch,.osl 1 7 0 s.peer.log.length,I s.peer.done,I s.tree.zxid,.osl 2 9 0 s.tree.nodes.length,.osl 3 1 0 s.tree.sessions.length,.osl 4 3 0 s.watches.length]) [.rows 3 (s.disk.files.map AFile.row),.rows 7 (s.peer.log.map ATxn.row),.rows 9 (s.tree.nodes.map ANode.row),.rows 1 (s.tree.sessions.map cO),.rows 3 (s.watches.map AWatch.row)]):=by
  obtain ⟨_,h1,h2,h3,h4⟩:=hw
  have hl1:=h1.1
  have hl2:=h2.2.2.1.1
  have hl3:=h3.2.1.1
  have hl4:=h3.2.2.1
  have hl5:=h4.1
  refine zJ Tryz.func64 Tryz.ntmps64 Tryz.results64 ?_;simp only [go_sem]
  (refine zW qw zn trivial (z1 ?_)<;>(repeat with_reducible intro hc))
  (refine zO ?_ ?_;(focus ((try simp (disch:=omega) only [go_sem,aa])<;>fail));simp (disch:=omega) only [go_sem,aa];refine ag.of_simp ?_ (ag.same ⟨rfl,rfl⟩);refine zV [2,3,4,5,6] rfl rfl rfl rfl ?_ ?_<;>simp (disch:=omega) only [go_sem,aa,true_or,or_true])
theorem e8 (w:AWorld) (i:Nat) (hi:i < 3) (hs:(w.s i).wf) (ii:Int) (hii:ii=(i:Int)):ab Tryz.prog (inW w) 22 [.ptr 0 0,I ii] (cu (w.s i).av (inW w)):=by
  subst hii
  unfold inW
  refine zJ Tryz.func22 Tryz.ntmps22 Tryz.results22 ?_;simp only [go_sem]
  (refine zW qw (z1 (A2 (w.s i) hs)) trivial (z1 ?_)<;>(repeat with_reducible intro hc))
  all_goals first | (exfalso;omega) | skip
  (refine zO ?_ ?_;(focus ((try simp (disch:=omega) only [go_sem,aa])<;>fail));simp (disch:=omega) only [go_sem,aa];refine ag.data2 rfl rfl (by intro j hj;simp only [go_sem,List.mem_append,List.mem_cons,List.not_mem_nil,or_false,false_or,List.nil_append,List.append_nil,List.cons_append] at hj;omega) ?_ ?_ ?_ ?_<;>simp (disch:=omega) only [go_sem,aa,I,B,S,zj,Nat.le_refl])
theorem D6 (w:AWorld) (i:Nat) (hi:i < 16) (hs:(w.c i).wf) (ii:Int) (hii:ii=(i:Int)):ab Tryz.prog (inW w) 24 [.ptr 0 0,I ii] (cu (w.c i).av (inW w)):=by
  subst hii
  have hl:=hs.2.2.1
  unfold inW
  refine zJ Tryz.func24 Tryz.ntmps24 Tryz.results24 ?_;simp only [go_sem]
  (refine zW qw zn trivial (z1 ?_)<;>(repeat with_reducible intro hc))
  all_goals first | (exfalso;omega) | skip
  (refine zO ?_ ?_;(focus ((try simp (disch:=omega) only [go_sem,aa])<;>fail));simp (disch:=omega) only [go_sem,aa];refine ag.data2 rfl rfl (by intro j hj;simp only [go_sem,List.mem_append,List.mem_cons,List.not_mem_nil,or_false,false_or,List.nil_append,List.append_nil,List.cons_append] at hj;omega) ?_ ?_ ?_ ?_<;>simp (disch:=omega) only [go_sem,aa,I,B,S,zj,Nat.le_refl])
theorem vn (w:AWorld) (hl:w.done.length≤100000):ab Tryz.prog (inW w) 20 [.ptr 0 0] (cu (.d (.sl 7 (w.done.map ATxn.row))) (inW w)):=by
  have t1:List.take w.done.length (w.done.map ATxn.row)=w.done.map ATxn.row:=List.take_of_length_le (by simp)
  unfold inW
  refine zJ Tryz.func20 Tryz.ntmps20 Tryz.results20 ?_;simp only [go_sem]
  (refine zW qw zn @t1 (z1 ?_)<;>(repeat with_reducible intro hc))
  all_goals first | (exfalso;omega) | skip
  (refine zO ?_ ?_;(focus ((try simp (disch:=omega) only [go_sem,aa,t1,Nat.min_self])<;>fail));simp (disch:=omega) only [go_sem,aa,t1,Nat.min_self];refine ag.data2 rfl rfl (by intro j hj;simp only [go_sem,List.mem_append,List.mem_cons,List.not_mem_nil,or_false,false_or,List.nil_append,List.append_nil,List.cons_append] at hj;omega) ?_ ?_ ?_ ?_<;>simp (disch:=omega) only [go_sem,aa,t1,Nat.min_self,I,B,S,zj,Nat.le_refl])
attribute [go_sem] Tryz.ntmps108 Tryz.results108
theorem Cv {l:List APeer} (h:(cd l).2.2=0):∃ b:Nat,(cd l).1=(b:Int)∧b < l.length∧okI (cd l).2.1:=by
  unfold cd at h ⊢
  split at h
  · rename_i h0
    rw [if_pos h0]
    split at h
    · exact absurd h (by decide)
    · rename_i h1
      rw [if_neg h1]
      split at h
      · exact absurd h (by decide)
      · rename_i h2
        rw [if_neg h2]
        obtain ⟨a,b,c⟩:=rM l.length h0
        exact ⟨_,rfl,by omega,by simp only;constructor<;>omega⟩
  · exact absurd h (by assumption)
def eC (w:AWorld) (k:Nat):List APeer:=((List.range k).filter fun i=>(w.s i).up).map fun i=>(w.s i).peer
theorem fj (w:AWorld) (k:Nat):eC w (k+1)=if (w.s k).up=true then eC w k++[(w.s k).peer] else eC w k:=by
  unfold eC
  rw [List.range_succ,List.filter_append,List.map_append]
  split
  · rename_i h
    congr 1
    simp [h]
  · rename_i h
    simp [h]
theorem CI {w:AWorld} (h:w.sv.length=3):eC w 3=bI w:=by
  have:w.sv=[w.s 0,w.s 1,w.s 2]:=by
    unfold AWorld.s
    generalize w.sv=l at h ⊢
    rcases l with _ | ⟨a,_ | ⟨b,_ | ⟨c,_ | ⟨d,l⟩⟩⟩⟩<;>first | rfl | (simp at h)
  unfold bI
  rw [this]
  rw [fj,fj,fj]
  generalize w.s 0=a
  generalize w.s 1=b
  generalize w.s 2=c
  have h0:eC w 0=[]:=rfl
  rw [h0]
  cases ha:a.up<;>cases hb:b.up<;>cases hc:c.up<;>simp [ha,hb,hc]
theorem mN (w:AWorld):∀ k,(eC w k).length≤k
  | 0=>Nat.le_refl _
  | k+1=>by
    have:=mN w k
    rw [fj]
    split
    · rw [List.length_append,List.length_singleton];omega
    · omega
theorem A5 {w:AWorld} {k:Nat} {p:APeer} (h:p∈eC w k):∃ i,i < k∧p=(w.s i).peer:=by
  unfold eC at h
  obtain ⟨i,hi,e⟩:=List.mem_map.1 h
  exact ⟨i,List.mem_range.1 (List.mem_filter.1 hi).1,e.symm⟩
structure ElOk (w:AWorld):Prop where
  l:WL w
  s:∀ i,i < 3→GS (w.s i)
  n:∀ i,i < 3→(w.s i).peer.log.length≤100000
  v:∀ i,i < 3→(w.s i).watches.length≤400
  c:∀ i,i < 16→(w.c i).cache.length≤100000∧aY ((w.c i).cache.map AEntry.path)
  d:w.done.length≤100000
theorem pH {k:Nat} (h:k < 3):([0,1,2]:List Nat).drop k=k::([0,1,2]:List Nat).drop (k+1):=by
  rcases k with _ | _ | _ | k<;>first | rfl | omega
structure ElInv (w:AWorld) (L:List ATxn) (ep:Int) (F:AWorld×List ANote×Int) (v:Nat×AWorld×List ANote):Prop where
  k:v.1≤3
  f:bM L ep (([0,1,2]:List Nat).drop v.1) v.2.1 v.2.2=F
  l:WL v.2.1
  s:∀ i,v.1≤i→i < 3→v.2.1.s i=w.s i
  d:v.2.1.done=w.done
  n:v.2.2.length≤400*v.1
  c:v.2.1.cl=w.cl
theorem ElInv.down {w:AWorld} {L:List ATxn} {ep:Int} {F:AWorld×List ANote×Int} {v:Nat×AWorld×List ANote} (h:ElInv w L ep F v) (hk:v.1 < 3) (hu:(w.s v.1).up=false):ElInv w L ep F (v.1+1,v.2):=by
  obtain ⟨h1,h2,h3,h4,h5,h6,h7⟩:=h
  have hs:=h4 v.1 (Nat.le_refl _) hk
  rw [pH hk,bM,hs,if_pos hu] at h2
  exact ⟨hk,h2,h3,fun i a b=>h4 i (by simp only at a;omega) b,h5,by simp only;omega,h7⟩
theorem ElInv.stop1 {w:AWorld} {L:List ATxn} {ep:Int} {F:AWorld×List ANote×Int} {v:Nat×AWorld×List ANote} (h:ElInv w L ep F v) (hk:v.1 < 3) (hu:¬ (w.s v.1).up=false) (hf:(aI (w.s v.1) L ep).2≠0):F=(v.2.1,v.2.2,(aI (w.s v.1) L ep).2):=by
  have h2:=h.f
  have hs:=h.s v.1 (Nat.le_refl _) hk
  rw [pH hk,bM,hs,if_neg hu,if_pos hf] at h2
  exact h2.symm
theorem ElInv.stop2 {w:AWorld} {L:List ATxn} {ep:Int} {F:AWorld×List ANote×Int} {v:Nat×AWorld×List ANote} (h:ElInv w L ep F v) (hk:v.1 < 3) (hu:¬ (w.s v.1).up=false) (hf:¬ (aI (w.s v.1) L ep).2≠0)
    (hc:(aC (aI (w.s v.1) L ep).1 L.length).2.2≠0):F=(v.2.1,v.2.2,(aC (aI (w.s v.1) L ep).1 L.length).2.2):=by
  have h2:=h.f
  have hs:=h.s v.1 (Nat.le_refl _) hk
  rw [pH hk,bM,hs,if_neg hu,if_neg hf,if_pos hc] at h2
  exact h2.symm
theorem ElInv.next {w:AWorld} {L:List ATxn} {ep:Int} {F:AWorld×List ANote×Int} {v:Nat×AWorld×List ANote} (h:ElInv w L ep F v) (hk:v.1 < 3) (hu:¬ (w.s v.1).up=false) (hf:¬ (aI (w.s v.1) L ep).2≠0)
    (hc:¬ (aC (aI (w.s v.1) L ep).1 L.length).2.2≠0) (hw:(w.s v.1).watches.length≤400) :
    ElInv w L ep F (v.1+1,(v.2.1.setS v.1 (aC (aI (w.s v.1) L ep).1 L.length).1).setF v.1 true,v.2.2++(aC (aI (w.s v.1) L ep).1 L.length).2.1):=by
  obtain ⟨h1,h2,⟨e1,e2,e3⟩,h4,h5,h6,h7⟩:=h
  have hs:=h4 v.1 (Nat.le_refl _) hk
  rw [pH hk,bM,hs,if_neg hu,if_neg hf,if_neg hc] at h2
  have hn:=jW (aI (w.s v.1) L ep).1 L.length
  have hn2:=(mH (w.s v.1) L ep).length_le
  refine ⟨hk,h2,⟨?_,?_,e3⟩,fun i a b=>?_,h5,?_,h7⟩
  · show (v.2.1.sv.set _ _).length=3;rw [List.length_set];exact e1
  · show (v.2.1.fl.set _ _).length=3;rw [List.length_set];exact e2
  · simp only at a
    show (v.2.1.setS v.1 _).s i=w.s i
    rw [dO (by omega),if_neg (by omega)]
    exact h4 i (by omega) b
  · simp only [List.length_append];omega
theorem ElInv.end {w:AWorld} {L:List ATxn} {ep:Int} {F:AWorld×List ANote×Int} {v:Nat×AWorld×List ANote} (h:ElInv w L ep F v) (hk:¬ v.1 < 3):F=(v.2.1,v.2.2,0):=by
  have h2:=h.f
  have hk3:v.1=3:=by have:=h.k;omega
  rw [hk3] at h2
  exact h2.symm
theorem BU {w:AWorld} (h:w.cl.length=16) (ns:List ANote):(cw w).told ns 16=cw (eA w ns):=by
  have:(fun j=>if j < 16 then kv ns (w.c j) else w.c j)=(eA w ns).c:=funext fun j=>by
    by_cases hj:j < 16
    · rw [if_pos hj,ww (by omega)];rfl
    · rw [if_neg hj]
      unfold AWorld.c eA
      simp only
      rw [List.getD_eq_getElem?_getD,List.getD_eq_getElem?_getD,List.getElem?_eq_none (by omega),List.getElem?_eq_none (by simp;omega)]
  show (CW.mk w.s (fun j=>if j < 16 then kv ns (w.c j) else w.c j) w.leader w.f w.done.length w.deeds)=_
  rw [this];rfl
set_option maxHeartbeats 16000000 in
theorem Fc (w:AWorld) (hw:ElOk w):ab Tryz.prog (inW w) 57 [.ptr 0 0] (cH (dv w).1 (dv w).2):=by
  obtain ⟨⟨e1,e2,e3⟩,hs,hn,hv4,hc16,hd⟩:=hw
  unfold dv
  rw [←CI e1]
  unfold inW cH
  refine zJ Tryz.func57 Tryz.ntmps57 Tryz.results57 ?_;simp only [go_sem]
  (refine zW qw zn trivial (z1 ?_)<;>(repeat with_reducible intro hc))
  refine AWP.weaken (aG.nilOwn 3 4 rfl) ?_
  simp only [go_sem]
  refine AWP.loopB (ι:=Nat) (fun k=>k≤3) (fun k=>3 - k) [0,2,19] (fun k=>[(20,I k),(3,.osl 3 4 0 (eC w k).length)]) (fun k=>[.cells (wC (cw w) 1),.rows 7 (w.done.map ATxn.row),.cells [I 0,I 0,S [],S [],I 0,I 0,I 0,I 0,I 0,I 0,I 0,.d (.sc (.slice none 0 0))],.rows 4 ((eC w k).map APeer.row)]) 0 ?_ ?_ ?_
  · omega
  · simp only [go_sem,show eC w 0=[] from rfl];exact zSm trivial
  intro k hk
  simp only [go_sem]
  by_cases hk3:k < 3
  · have hpl:=mN w k
    (refine zW qw zn trivial (z2 ?_ ?_)<;>(repeat with_reducible intro hc))
    all_goals (try (exfalso;omega))
    · refine ⟨k+1,by omega,by omega,?_⟩
      rw [fj,if_pos hc]
      exact zFr [0,1,2,6] (zx @List.map_append.{0,0} (zx @List.map_cons.{0,0} (zx @List.map_nil.{0,0} (zx @APeer.row.eq_1 (zx @List.length_append.{0} (zx @List.length_cons.{0} @List.length_nil.{0}))))))
    · refine ⟨k+1,by omega,by omega,?_⟩
      rw [fj,if_neg (by rw [hc];decide)]
      exact zFr [0,1,2,3] trivial
  have e:k=3:=by omega
  subst e
  have hPl:=mN w 3
  have hPm:=fun p hp=>@A5 w 3 p hp
  have hPg:∀ p,p∈eC w 3→p.log.length≤100000∧∀ x,x∈p.log→x.wf∧x.path.length≤1048576:=fun p hp=>by
    obtain ⟨i,hi,rfl⟩:=hPm p hp
    exact ⟨hn i hi,fun x hx=>⟨(hs i hi).w.2.2.1.2.2.1.2 x hx,(hs i hi).p x hx⟩⟩
  have hel:=KX (eC w 3) (by omega) (fun p hp=>by have:=(hPg p hp).1;omega)
  have hok:=@Cv (eC w 3)
  generalize eC w 3=P at hPl hPm hPg hel hok ⊢
  generalize cd P=q at hel hok ⊢
  obtain ⟨q1,ep,q3⟩:=q
  simp only [kz] at hel hok ⊢
  by_cases hq:q3=0
  case neg=>
    simp only [ne_eq,hq,not_false_eq_true,if_true]
    (refine zW qw (z1 hel) trivial (z1 ?_)<;>(repeat with_reducible intro hc))
    all_goals first | (exfalso;omega) | skip
    (refine zO ?_ ?_;(focus ((try simp (disch:=omega) only [go_sem,aa])<;>fail));simp (disch:=omega) only [go_sem,aa];exact ag.worldV (r:=noR q3) (rfl) rfl rfl rfl)
  subst hq
  obtain ⟨b,hb,hbl,hep⟩:=hok rfl
  subst hb
  simp only [ne_eq,not_true_eq_false,if_false,Int.toNat_natCast]
  obtain ⟨hL1,hL2⟩:=hPg _ (bX P b hbl)
  have hrow:=fun z=>APeer.rgetD P b z hbl
  generalize P.getD b default=B at hL1 hL2 hrow ⊢
  generalize hF:bM B.log ep [0,1,2] w.resign []=F
  (refine zW qw (z2 (ic Tryz.func108) hel) (zx @hrow @pq) (z1 ?_)<;>(repeat with_reducible intro hc))
  refine AWP.weaken (aG.nilOwn 10 3 rfl) ?_
  simp only [go_sem]
  refine AWP.loopB (ι:=Nat×AWorld×List ANote) (fun v=>ElInv w B.log ep F v) (fun v=>3 - v.1) [0,2,3,6,7,9] (fun v=>[(48,I v.1),(10,.osl 4 3 0 v.2.2.length)]) (fun v=>[.cells (wC (cw v.2.1) 1),.rows 7 (w.done.map ATxn.row),.cells [I 0,I 0,S [],S [],I 0,I 0,I 0,I 0,I 0,I 0,I 0,.d (.sc (.slice none 0 0))],.rows 4 (P.map APeer.row),.rows 3 (v.2.2.map ANote.row)]) (0,w.resign,[]) ?_ ?_ ?_
  · exact ⟨Nat.zero_le _,hF,⟨e1,rfl,e3⟩,fun i _ _=>rfl,rfl,Nat.le_refl _,rfl⟩
  · simp only [go_sem];exact zFr [0,1,2,3,4] trivial
  intro v hv
  simp only [go_sem]
  have hvk:=hv.k
  have hvn:=hv.n
  by_cases hk4:v.1 < 3
  · have hs0:=hv.s v.1 (Nat.le_refl _) hk4
    have hg:=hs v.1 hk4
    have hw4:=hv4 v.1 hk4
    have hL1':B.log.length≤1048576:=by omega
    have hfo:=Ij (w.s v.1) B.log ep hg.w (fun x hx=>(hL2 x hx).1) hL1' hep
    have hfg:=DY (ep:=ep) hg hL2 hL1' hep
    have hco:=xo (aI (w.s v.1) B.log ep).1 B.log.length hfg.w hfg.t hfg.p
    have hdn:=hv.down hk4
    have hst1:=hv.stop1 hk4
    have hst2:=hv.stop2 hk4
    have hnx:=fun a b c=>hv.next hk4 a b c hw4
    have hcf:=jW (aI (w.s v.1) B.log ep).1 B.log.length
    have hff:=(mH (w.s v.1) B.log ep).length_le
    by_cases hu:(w.s v.1).up=false
    · (repeat' first
    | (with_reducible refine AR.f ?_)
    | refine an (by decide) ?_
    | (with_reducible refine AWP.cond rfl ?_ ?_<;>intro hc<;>(try simp only [hcs,beq_iff_eq,ge_iff_le,gt_iff_lt] at hc))
    | ((first | ((first | (with_reducible first | refine zR ?_ | refine zQ (by decide +kernel) ?_ | refine zD (by decide +kernel) ?_ | refine zE (by decide +kernel) ?_ | refine zG (by decide +kernel) ?_));intro K hK) | ((first | (with_reducible refine aunder_i ?_ ?_<;>intro hg) | with_reducible intro hg)<;>(first | (exfalso;simp at hg;done) | (have hg':=hg;(try simp only [hcs,beq_iff_eq,ge_iff_le,gt_iff_lt] at hg');(try simp only [hg])))))<;>(try simp (disch:=omega) only [go_sem,aa,hs0])<;>(repeat' with_reducible refine And.intro ?_ ?_)<;>(try (with_reducible refine hK _ ?_;clear hK K)))
    | omega)
      all_goals first | (exfalso;omega) | (exfalso;simp_all;done) | skip
      refine ⟨(v.1+1,v.2),hdn hu,by simp only;omega,?_⟩
      exact zFr [0,1,2,3,4] trivial
    generalize aI (w.s v.1) B.log ep=fo at hfo hfg hco hst1 hst2 hnx hcf hff
    obtain ⟨f1,f2⟩:=fo
    simp only at hfo hfg hco hst1 hst2 hnx hcf hff
    by_cases hf2:f2=0
    case neg=>
      have hF2:=hst1 hu hf2
      subst hF2
      simp only [ne_eq,hf2,not_false_eq_true,if_true]
      (refine zW qw (z1 hfo) @hs0 (z2 ?_ ?_)<;>(repeat with_reducible intro hc))
      all_goals first | (exfalso;omega) | (exfalso;simp_all;done) | skip
      (refine zO ?_ ?_;(focus ((try simp (disch:=omega) only [go_sem,aa,true_and])<;>fail));simp (disch:=omega) only [go_sem,aa,true_and];exact ag.worldV (r:=noR f2) (rfl) rfl rfl (by rw [hv.d];rfl))
    subst hf2
    generalize aC f1 B.log.length=co at hco hst2 hnx hcf
    obtain ⟨c1,cn,ce⟩:=co
    simp only at hco hst2 hnx hcf
    by_cases hce:ce=0
    case neg=>
      have hF2:=hst2 hu (fun h=>h rfl) hce
      subst hF2
      simp only [ne_eq,hce,not_false_eq_true,if_true]
      (refine zW qw (z2 hfo hco) @hs0 (z2 ?_ ?_)<;>(repeat with_reducible intro hc))
      all_goals first | (exfalso;omega) | (exfalso;simp_all;done) | skip
      (refine zO ?_ ?_;(focus ((try simp (disch:=omega) only [go_sem,aa,true_and])<;>fail));simp (disch:=omega) only [go_sem,aa,true_and];exact ag.worldV (r:=noR ce) (rfl) rfl rfl (by rw [hv.d];rfl))
    subst hce
    (refine zW qw (z2 hfo hco) @hs0 (z2 ?_ ?_)<;>(repeat with_reducible intro hc))
    all_goals first | (exfalso;omega) | (exfalso;simp_all;done) | skip
    refine ⟨_,hnx hu (fun h=>h rfl) (fun h=>h rfl),by simp only;omega,?_⟩
    have k1:=JR hv.l.sl hk4
    have k2:=Nn hv.l.fl hk4
    exact zFr [0,1,2,3,6] (zx @List.map_append.{0,0} (zx @List.length_append.{0} (zx @k1 @k2)))
  have hF2:=hv.end hk4
  subst hF2
  simp only [ne_eq,not_true_eq_false,if_false]
  have hla:=last_c B.log (by omega)
  have htl:=BG ((cw v.2.1).setL B.id) (w.done.map ATxn.row) v.2.2 (fun i hi=>by have:=hc16 i hi;show (v.2.1.cl.getD i default).cache.length≤_∧aY ((v.2.1.cl.getD i default).cache.map _);rw [hv.c];exact this) (by omega)
  (refine zW qw (z2 (ac [0,1,4] htl) hla) @hrow (z1 ?_)<;>(repeat with_reducible intro hc))
  all_goals first | (exfalso;omega) | skip
  refine zO ?_ ?_
  · simp (disch:=omega) only [go_sem,aa]
  simp (disch:=omega) only [go_sem,aa]
  exact ag.worldM 1 4 (r:=⟨0,ay B.log,[],[],default,v.2.2⟩) (BU (w:={ v.2.1 with leader:=B.id }) hv.l.cl v.2.2) rfl (by rw [show (eA { v.2.1 with leader:=B.id } v.2.2).done=w.done from hv.d];rfl) (by decide) rfl (by decide)
end Go.Proofs.YtjcooccnfkfjhaaGreatDoor
