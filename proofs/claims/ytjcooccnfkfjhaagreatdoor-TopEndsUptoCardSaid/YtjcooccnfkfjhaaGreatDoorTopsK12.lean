/- A part of what Tops leans on: texts of this claim, one behind the other. No condition. -/
import Derived.Test.YtjcooccnfkfjhaaGreatDoorTopsK11
namespace Go.Proofs.YtjcooccnfkfjhaaGreatDoor
set_option linter.unusedVariables false
set_option linter.unusedSimpArgs false
open Go Go.RowKit
set_option maxRecDepth 100000
theorem jB {l:List ATxn} {ep:Int}:∀ (r:List Nat) (w:AWorld) (ns:List ANote),(bG l ep r w ns).1.deeds=w.deeds
  | [],w,ns=>rfl
  | i::r,w,ns=>by
    rw [bG]
    split
    · exact jB r w ns
    split
    · rfl
    split
    · rfl
    rw [jB r];rfl
theorem iJ {x:ATxn} {lead lost slow:Int}:∀ (r:List Nat) (w:AWorld) (hv:List Nat),(bT x lead lost slow r w hv).1.deeds=w.deeds
  | [],w,hv=>rfl
  | i::r,w,hv=>by
    rw [bT]
    split
    · exact iJ r w hv
    split
    · rw [iJ r];rfl
    split
    · rfl
    rw [iJ r];rfl
theorem mv:∀ (r:List Nat) (w:AWorld) (ns:List ANote),(bn r w ns).1.deeds=w.deeds
  | [],w,ns=>rfl
  | i::r,w,ns=>by
    rw [bn]
    split
    · rfl
    rw [mv r];rfl
theorem Ey (w:AWorld) (d:ADeed):(lX w d).1.deeds=w.deeds:=by
  unfold lX
  split
  · unfold dg
    split
    · rfl
    split
    · rfl
    split
    · rfl
    simp only
    split
    · rfl
    have ht:=iJ (x:=(cA (w.s w.leader.toNat).tree (dC (w.s w.leader.toNat).peer).1 (ma w d)).1) (lead:=w.leader) (lost:=d.lost) (slow:=d.slow) [0,1,2] w []
    generalize bT _ _ _ _ _ _ _=R at ht ⊢
    split
    · exact ht
    split
    · exact ht
    unfold js
    simp only
    have hc:=mv R.2.1 R.1 []
    generalize bn _ _ _=Q at hc ⊢
    split
    · exact hc.trans ht
    split
    · exact hc.trans ht
    · exact hc.trans ht
  split
  · unfold ib
    split
    · rfl
    simp only
    split
    · rfl
    split
    · rfl
    split
    · split
      · rfl
      · rfl
    · rfl
  split
  · unfold dw
    split
    · rfl
    simp only
    have ht:=jB (l:=((bw w).getD (cd (bw w)).1.toNat default).log) (ep:=(cd (bw w)).2.1) [0,1,2] w.resign []
    generalize bG _ _ _ _ _=R at ht ⊢
    split
    · exact ht
    · exact ht
  split
  · split
    · rfl
    split
    · unfold upW
      split
      · rfl
      split
      · rfl
      · rfl
    · unfold dP
      split
      · rfl
      split
      · rfl
      simp only
      split
      · rfl
      · rfl
  · rfl
theorem yh {w:AWorld} (h:w.deeds < 300) (d:ADeed):(doW w d).1.deeds=w.deeds+1:=by
  unfold doW
  rw [if_neg (by omega),Ey]
theorem Bw {w:AWorld} (h:300≤w.deeds) (d:ADeed):doW w d=(w,noR 6):=by
  unfold doW;rw [if_pos h]
def rv:ADeed:=⟨0,0,0,default,0,0,0,false⟩
theorem IJ {w:AWorld} (h:w.deeds < 300):doW w rv=({ w with deeds:=w.deeds+1 },noR 4):=by
  unfold doW lX rv
  rw [if_neg (by omega),if_neg (show ¬ (0:Int)=1 by decide),if_neg (show ¬ (0:Int)=2 by decide),if_neg (show ¬ (0:Int)=5 by decide),if_neg (show ¬ ((0:Int)=3∨(0:Int)=4) by decide)]
def fg (who server:Nat) (p:List UInt8):ADeed:=⟨2,who,server,⟨0,0,p,[],0,0⟩,0,0,0,false⟩
theorem Ko {w:AWorld} (h:w.deeds < 300) {who server:Nat} (h1:who < 16) (h2:server < 3) (hcl:w.cl.length=16) (p:List UInt8) {u:AWorld} {r:AReply} (he:doW w (fg who server p)=(u,r)) :
    (∀ j,u.s j=w.s j)∧(∀ i,i≠who→u.c i=w.c i)∧((w.s server).up=false→r.code=14)∧((w.s server).up=true→(w.s server).tree.zxid < (w.c who).seen→r.code=15)∧
      ((w.s server).up=true→¬ (w.s server).tree.zxid < (w.c who).seen→r.code=(aP (w.s server).tree p).2∧r.data=(aP (w.s server).tree p).1.data∧r.stat=(aP (w.s server).tree p).1.stat∧(u.c who).seen=(w.s server).tree.zxid∧(u.c who).cache=(w.c who).cache):=by
  have hd:doW w (fg who server p)=ib { w with deeds:=w.deeds+1 } (fg who server p):=by
    unfold doW lX
    rw [if_neg (by omega),if_neg (show ¬ (fg who server p).kind=1 from (by decide:¬ (2:Int)=1)),if_pos (show (fg who server p).kind=2 from rfl)]
  rw [hd] at he
  have hr:ib { w with deeds:=w.deeds+1 } (fg who server p)=if (w.s server).up=false then ({ w with deeds:=w.deeds+1 },noR 14) else if (eP (w.c who) (w.s server).tree.zxid).2≠0 then ({ w with deeds:=w.deeds+1 },noR (eP (w.c who) (w.s server).tree.zxid).2) else
      (({ w with deeds:=w.deeds+1 }:AWorld).setC who (eP (w.c who) (w.s server).tree.zxid).1,⟨(aP (w.s server).tree p).2,(w.s server).tree.zxid,(aP (w.s server).tree p).1.path,(aP (w.s server).tree p).1.data,(aP (w.s server).tree p).1.stat,[]⟩):=by
    unfold ib
    rw [if_neg (by show ¬ ((who:Int) < 0∨16≤(who:Int)∨(server:Int) < 0∨3≤(server:Int));omega)]
    rfl
  rw [hr] at he
  by_cases hu:(w.s server).up=false
  · rw [if_pos hu] at he
    injection he with e1 e2
    subst e1 e2
    exact ⟨fun _=>rfl,fun _ _=>rfl,fun _=>rfl,fun h=>(by rw [hu] at h;cases h),fun h=>(by rw [hu] at h;cases h)⟩
  rw [if_neg hu] at he
  by_cases hs:(w.s server).tree.zxid < (w.c who).seen
  · have hse:eP (w.c who) (w.s server).tree.zxid=(default,15):=by unfold eP;rw [if_pos hs]
    rw [hse,if_pos (show (15:Int)≠0 by decide)] at he
    injection he with e1 e2
    subst e1 e2
    exact ⟨fun _=>rfl,fun _ _=>rfl,fun h=>absurd h hu,fun _ _=>rfl,fun _ h=>absurd hs h⟩
  · have hse:eP (w.c who) (w.s server).tree.zxid=({ w.c who with seen:=(w.s server).tree.zxid },0):=by unfold eP;rw [if_neg hs]
    rw [hse,if_neg (fun h=>h rfl)] at he
    injection he with e1 e2
    subst e1 e2
    have hc:∀ i,(({ w with deeds:=w.deeds+1 }:AWorld).setC who { w.c who with seen:=(w.s server).tree.zxid }).c i=if i=who then { w.c who with seen:=(w.s server).tree.zxid } else w.c i:=fun i=>AK (by show who < w.cl.length;omega) _ i
    refine ⟨fun _=>rfl,fun i hi=>by rw [hc,if_neg hi],fun h=>absurd h hu,fun _ h=>absurd h hs,fun _ _=>⟨rfl,rfl,rfl,?_,?_⟩⟩
    · rw [hc,if_pos rfl]
    · rw [hc,if_pos rfl]
def wN (l log:List ATxn):Nat→Nat
  | 0=>0
  | i+1=>if wN l log i < l.length∧log.getD i default=l.getD (wN l log i) default then wN l log i+1 else wN l log i
theorem G7 (l log:List ATxn):∀ i,wN l log i≤l.length
  | 0=>Nat.zero_le _
  | i+1=>by
    rw [wN]
    split
    · omega
    · exact G7 l log i
theorem wv (l:List ATxn) {k:Nat} (h:k < l.length):l.drop k=l.getD k default::l.drop (k+1):=by
  rw [List.drop_eq_getElem_cons h,List.getD_eq_getElem?_getD,List.getElem?_eq_getElem h];rfl
theorem Gl {l log:List ATxn} (h:l.Sublist log):∀ i,i≤log.length→(l.drop (wN l log i)).Sublist (log.drop i)
  | 0,_=>h
  | i + 1,hi=>by
    have ih:=Gl h i (by omega)
    rw [wv log (by omega)] at ih
    rw [wN]
    by_cases hk:wN l log i < l.length
    · rw [wv l hk] at ih
      by_cases e:log.getD i default=l.getD (wN l log i) default
      · rw [if_pos ⟨hk,e⟩]
        rw [e] at ih
        exact List.cons_sublist_cons.1 ih
      · rw [if_neg (fun h=>e h.2),wv l hk]
        generalize log.getD i default=y at ih e
        generalize l.getD (wN l log i) default=x at ih e ⊢
        cases ih with
        | cons _ h=>exact h
        | cons_cons=>exact absurd rfl e
    · rw [if_neg (fun h=>hk h.1),List.drop_eq_nil_of_le (by omega)]
      exact List.nil_sublist _
theorem Lx {l log:List ATxn} (h:l.Sublist log):wN l log log.length=l.length:=by
  have h1:=Gl h log.length (Nat.le_refl _)
  rw [List.drop_length] at h1
  have h2:=List.drop_eq_nil_iff.1 (List.sublist_nil.1 h1)
  have:=G7 l log log.length
  omega
theorem uK {l:List (List UInt8)}:aU l↔l.Pairwise (fun a b=>a < b):=by
  have gd (j:Nat) (hj:j < l.length):l.getD j []=l[j]:=by rw [List.getD_eq_getElem?_getD,List.getElem?_eq_getElem hj];rfl
  constructor
  · intro h
    refine List.pairwise_iff_getElem.2 fun i j hi hj hij=>?_
    have:=bd h hij hj
    rwa [gd i hi,gd j hj] at this
  · intro h k hk
    rw [gd k (by omega),gd (k+1) hk]
    exact List.pairwise_iff_getElem.1 h k (k+1) (by omega) hk (by omega)
def eK (l:List AEntry) (n:Nat):Prop:=aU (l.map AEntry.path)∧l.length≤n∧∀ e,e∈l→e.path.length≤200∧e.data.length≤256
theorem eK.sub {l m:List AEntry} {n:Nat} (h:eK l n) (hs:m.Sublist l):eK m n:=
  ⟨uK.2 ((uK.1 h.1).sublist (hs.map _)),Nat.le_trans hs.length_le h.2.1,fun e he=>h.2.2 e (hs.subset he)⟩
theorem eK.nil (n:Nat):eK [] n:=⟨fun k hk=>absurd hk (by simp),Nat.zero_le _,fun e he=>by cases he⟩
theorem eK.mono {l:List AEntry} {n m:Nat} (h:eK l n) (hm:n≤m):eK l m:=⟨h.1,Nat.le_trans h.2.1 hm,h.2.2⟩
theorem oI (s:Int):∀ (ns:List ANote) (l:List AEntry),(d7 s l ns).Sublist l
  | [],l=>List.Sublist.refl _
  | a::ns,l=>by
    have h:=oI s ns (ky s l a)
    refine (show (d7 s l (a::ns)).Sublist (ky s l a) from h).trans ?_
    unfold ky
    split
    · exact List.filter_sublist
    · exact List.Sublist.refl _
theorem yg {e:AEntry} (h:e.path.length≤200∧e.data.length≤256):(normE e).path=e.path∧(normE e).path.length≤200∧(normE e).data.length≤256:=by
  unfold normE
  split
  · exact ⟨rfl,h⟩
  · exact ⟨rfl,h.1,Nat.zero_le _⟩
theorem eK.keep {l:List AEntry} {n:Nat} (h:eK l n) {e:AEntry} (he:e.path.length≤200∧e.data.length≤256):eK (iK l e) (n+1):=by
  obtain ⟨h1,h2,h3⟩:=h
  obtain ⟨e1,e2,e3⟩:=yg he
  unfold iK
  split
  · rename_i hm
    have hf:=ao h1 hm
    have hi:place (l.map AEntry.path) e.path < l.length:=by have:=hf.1;rwa [List.length_map] at this
    refine ⟨?_,by rw [List.length_set];omega,fun x hx=>?_⟩
    · have:(l.set (place (l.map AEntry.path) e.path) (normE e)).map AEntry.path=l.map AEntry.path:=by
        rw [List.map_set,e1]
        apply List.ext_getElem?
        intro j
        rw [List.getElem?_set]
        split
        · rename_i ej;subst ej
          rw [if_pos hf.1]
          have:=hf.2
          rw [List.getD_eq_getElem?_getD,List.getElem?_eq_getElem hf.1] at this
          rw [List.getElem?_eq_getElem hf.1]
          exact congrArg some this.symm
        · rfl
      rw [this];exact h1
    · rcases List.mem_or_eq_of_mem_set hx with hx | hx
      · exact h3 x hx
      · rw [hx];exact ⟨e2,e3⟩
  · rename_i hm
    have hp:=fW (l.map AEntry.path) e.path
    rw [List.length_map] at hp
    refine ⟨?_,by rw [eN _ _ _ hp];omega,fun x hx=>?_⟩
    · have:(l.insertIdx (place (l.map AEntry.path) e.path) (normE e)).map AEntry.path=(l.map AEntry.path).insertIdx (place (l.map AEntry.path) e.path) e.path:=by
        rw [←jY,e1]
      rw [this];exact oC h1 hm
    · rcases (List.mem_insertIdx hp).1 hx with hx | hx
      · rw [hx];exact ⟨e2,e3⟩
      · exact h3 x hx
theorem oH {l:List ATxn} {ep:Int}:∀ (r:List Nat) (w:AWorld) (ns:List ANote),(bG l ep r w ns).1.cl=w.cl
  | [],w,ns=>rfl
  | i::r,w,ns=>by
    rw [bG]
    split
    · exact oH r w ns
    split
    · rfl
    split
    · rfl
    rw [oH r];rfl
theorem nJ {x:ATxn} {lead lost slow:Int}:∀ (r:List Nat) (w:AWorld) (hv:List Nat),(bT x lead lost slow r w hv).1.cl=w.cl
  | [],w,hv=>rfl
  | i::r,w,hv=>by
    rw [bT]
    split
    · exact nJ r w hv
    split
    · rw [nJ r];rfl
    split
    · rfl
    rw [nJ r];rfl
theorem rF:∀ (r:List Nat) (w:AWorld) (ns:List ANote),(bn r w ns).1.cl=w.cl
  | [],w,ns=>rfl
  | i::r,w,ns=>by
    rw [bn]
    split
    · rfl
    rw [rF r];rfl
def bL (l:List AClient) (n:Nat):Prop:=∀ c,c∈l→eK c.cache n
theorem bL.mono {l:List AClient} {n m:Nat} (h:bL l n) (hm:n≤m):bL l m:=fun c hc=>(h c hc).mono hm
theorem bL.tell {w:AWorld} {n:Nat} (h:bL w.cl n) (ns:List ANote):bL (ew w ns).cl n:=fun c hc=>by
  obtain ⟨c0,h1,rfl⟩:=List.mem_map.1 hc
  exact (h c0 h1).sub (oI _ _ _)
theorem bL.set {l:List AClient} {n:Nat} (h:bL l n) {c:AClient} (hc:eK c.cache n) (i:Nat):bL (l.set i c) n:=fun x hx=>by
  rcases List.mem_or_eq_of_mem_set hx with hx | hx
  · exact h x hx
  · rw [hx];exact hc
theorem bL.getD {l:List AClient} {n:Nat} (h:bL l n) (i:Nat):eK (l.getD i default).cache n:=by
  by_cases hi:i < l.length
  · exact h _ (bW l i hi)
  · rw [List.getD_eq_getElem?_getD,List.getElem?_eq_none (by omega)]
    exact eK.nil n
theorem seeC_cache {c:AClient} {n:Nat} (h:eK c.cache n) (z:Int):eK (eP c z).1.cache n:=by
  unfold eP
  split
  · exact eK.nil n
  · exact h
theorem tree_data {t:ATree} (hg:aK t=true) (p:List UInt8):(aP t p).1.data.length≤256:=by
  unfold aP
  split
  · rename_i hm
    have hf:=ao (aV hg) hm
    have hpl:=hf.1
    rw [aR] at hpl
    exact ((lj hg).2.2.2 _ (lr hpl)).2
  · exact Nat.zero_le _
theorem vq {l:List AWatch} {x:AWatch} (h:(jS l x).2=0):x.path.length≤200:=by
  unfold jS at h
  split at h
  · exact absurd h (by decide)
  split at h
  · exact absurd h (by decide)
  rename_i h2
  exact (iV (Classical.not_not.1 h2)).2.2.1
theorem bL.act {w:AWorld} {n:Nat} (h:bL w.cl n) (hg:∀ j,j < 3→aK (w.s j).tree=true) (d:ADeed):bL (lX w d).1.cl (n+1):=by
  have h1:bL w.cl (n+1):=h.mono (by omega)
  unfold lX
  split
  · unfold dg
    split
    · exact h1
    split
    · exact h1
    split
    · exact h1
    simp only
    split
    · exact h1
    have ht:=nJ (x:=(cA (w.s w.leader.toNat).tree (dC (w.s w.leader.toNat).peer).1 (ma w d)).1) (lead:=w.leader) (lost:=d.lost) (slow:=d.slow) [0,1,2] w []
    generalize bT _ _ _ _ _ _ _=R at ht ⊢
    split
    · simp only;rw [ht];exact h1
    split
    · show bL R.1.cl (n+1);rw [ht];exact h1
    unfold js
    simp only
    have hc:=rF R.2.1 R.1 []
    generalize bn _ _ _=Q at hc ⊢
    have hq:bL Q.1.cl (n+1):=by rw [hc,ht];exact h1
    split
    · exact hq
    have hu:bL (ew { Q.1 with done:=Q.1.done++[(cA (w.s w.leader.toNat).tree (dC (w.s w.leader.toNat).peer).1 (ma w d)).1] } Q.2.1).cl (n+1):=bL.tell (w:={ Q.1 with done:=Q.1.done++[(cA (w.s w.leader.toNat).tree (dC (w.s w.leader.toNat).peer).1 (ma w d)).1] }) hq _
    split
    · exact hu
    · exact hu.set (seeC_cache (hu.getD d.client.toNat) _) _
  split
  · unfold ib
    split
    · exact h1
    rename_i hd
    simp only
    split
    · exact h1
    split
    · exact h1
    have hs:=seeC_cache (h.getD d.client.toNat) (w.s d.server.toNat).tree.zxid
    split
    · split
      · exact h1
      · rename_i ha
        have hp:=vq (Classical.not_not.1 ha)
        exact h1.set (hs.keep ⟨hp,tree_data (hg _ (by omega)) _⟩) _
    · exact h1.set (hs.mono (by omega)) _
  split
  · unfold dw
    split
    · exact h1
    simp only
    have ht:=oH (l:=((bw w).getD (cd (bw w)).1.toNat default).log) (ep:=(cd (bw w)).2.1) [0,1,2] w.resign []
    generalize bG _ _ _ _ _=R at ht ⊢
    have hR:bL R.1.cl (n+1):=by rw [ht];exact h1
    split
    · exact hR
    · exact bL.tell (w:={ R.1 with leader:=((bw w).getD (cd (bw w)).1.toNat default).id }) hR _
  split
  · split
    · exact h1
    split
    · unfold upW
      split
      · exact h1
      split
      · exact h1
      · exact h1
    · unfold dP
      split
      · exact h1
      split
      · exact h1
      simp only
      split
      · exact h1
      · exact h1
  · exact h1
theorem bL.does {w:AWorld} {n:Nat} (h:bL w.cl n) (hg:∀ j,j < 3→aK (w.s j).tree=true) (d:ADeed):bL (doW w d).1.cl (n+1):=by
  unfold doW
  split
  · exact h.mono (by omega)
  · exact bL.act (w:={ w with deeds:=w.deeds+1 }) h hg d
theorem bL.start:bL dM.cl 0:=fun c hc=>by
  obtain ⟨i,_,rfl⟩:=List.mem_map.1 hc
  exact eK.nil 0
def bx (w:AWorld) (n:Nat):Prop:=(∃ g es K,WInv w g es K n)∧cM w∧bL w.cl n
theorem bx.start:bx dM 0:=⟨⟨_,_,_,WInv.start⟩,cM.start,bL.start⟩
theorem bx.does {w:AWorld} {n:Nat} (h:bx w n) (hn:n < 1000) (d:ADeed):bx (doW w d).1 (n+1):=by
  obtain ⟨⟨g,es,K,h1⟩,h2,h3⟩:=h
  exact ⟨h1.does hn d,h2.does d,h3.does (fun j hj=>(h1.trees hj).2.2.2) d⟩
theorem bx.server {w:AWorld} {n:Nat} (h:bx w n) (hn:n < 1000) {j:Nat} (hj:j < 3):(w.s j).wf∧okT (w.s j).tree∧aK (w.s j).tree=true∧(∀ x,x∈(w.s j).peer.log→x.wf∧x.path.length≤200)∧eF (w.s j).watches:=by
  obtain ⟨⟨g,es,K,h1⟩,h2,_⟩:=h
  have hE:=h1.pr.E0 j hj
  obtain ⟨a,b,c,d⟩:=(h1.sv j hj).wf hj (h1.small j hj) (by omega) ⟨hE.1,hE.2⟩ (h2 j)
  exact ⟨a,b,c,d,h2 j⟩
theorem bx.client {w:AWorld} {n:Nat} (h:bx w n) (hn:n < 1000) {i:Nat} (hi:i < 16):(w.c i).wf∧(w.c i).session=(i:Int)+1∧eK (w.c i).cache n:=by
  obtain ⟨⟨g,es,K,h1⟩,_,h3⟩:=h
  have hc:=h1.cli i hi
  have ho:=h3.getD i
  change eK (w.c i).cache n at ho
  have hes:=h1.pr.esn
  obtain ⟨o1,o2,o3,_⟩:=hc.2
  refine ⟨⟨by rw [hc.1];exact cz (by omega) (by omega),cz o1 (by omega),⟨by have:=ho.2.1;omega,fun e he=>?_⟩⟩,hc.1,ho⟩
  have:=ho.2.2 e he
  exact ⟨by unfold okS;omega,by unfold okS;omega,trivial⟩
theorem wH:∀ (X:List ATxn) (p:CSt),(jt X p).1.n.length+(jt X p).1.w.length≤p.n.length+p.w.length
  | [],p=>Nat.le_refl _
  | x::X,p=>by
    rw [jt]
    split
    · exact Nat.le_trans (wH X _) (uZ _ p x)
    · exact Nat.le_refl _
theorem kb (s:AServer) (n:Int):(aB s n).2.1.length≤s.watches.length:=by
  unfold aB
  split
  · exact Nat.zero_le _
  · simp only
    split
    · have:=wH ((s.peer.log.drop s.peer.done.toNat).take (n.toNat - s.peer.done.toNat)) ⟨s.tree,s.watches,[]⟩
      simp only [List.length_nil,Nat.zero_add] at this
      simp only
      omega
    · exact Nat.zero_le _
theorem qBo0:Pls [Plan.takes [1,2,3,4] (.fork 0 (Plan.takes [5,6,7,8] .done) 5 (Plan.takes [0,6,7,8] .done))]:=pls _
theorem A1:okS epN:=by unfold okS;decide
theorem ug (d:ADisk) (h:d.files.length*48≤140737488351232) (hw:∀ f,f∈d.files→f.wf):ab Tryz.prog [] 38 [d.av] (ret (I (fI d.files))):=by
  have hr:=EB d epN h hw
  have hz:=H8 (readD d.files epN).1 (by have:=nz (l:=d.files) epN;unfold okS;omega)
  unfold fI
  generalize readD d.files epN=q at hr hz ⊢
  obtain ⟨s,e⟩:=q
  simp only at hr hz ⊢
  generalize kv s=r at hz ⊢
  obtain ⟨z,f⟩:=r
  simp only at hz ⊢
  simp only [epN] at hr
  have he:=epoch_c z
  generalize epZ z=ep at he ⊢
  refine zJ Tryz.func38 Tryz.ntmps38 Tryz.results38 ?_;simp only [go_sem]
  (refine zW qw (z3 hr hz he) trivial (z3 ?_ ?_ ?_)<;>(repeat with_reducible intro hc))
  all_goals first
    | (rw [if_pos (by assumption)];(refine zE2 trivial ?_;(try simp (disch:=omega) only [go_sem,aa,I,B,S,zj]));done)
    | (rw [if_neg (by omega),if_pos (by assumption)];(refine zE2 trivial ?_;(try simp (disch:=omega) only [go_sem,aa,I,B,S,zj]));done)
    | (rw [if_neg (by omega),if_neg (by omega)];(refine zE2 trivial ?_;(try simp (disch:=omega) only [go_sem,aa,I,B,S,zj]));done)
theorem yN {l:List AFile} {key:List UInt8} (h:∀ f,f∈l→f.wf):∀ f,f∈(bu l key).1.files→f.wf:=by
  intro f hf
  unfold bu at hf
  split at hf
  · cases hf
  · split at hf
    · exact h f (List.mem_of_mem_eraseIdx hf)
    · cases hf
def mr (l:List AFile):List AFile:=if (bu l epN).2=0 then (bu l epN).1.files else l
theorem BB {l:List AFile} (h:l.length*48≤140737488351232) (hw:∀ f,f∈l→f.wf):(mr l).length*48≤140737488351232∧∀ f,f∈mr l→f.wf:=by
  unfold mr
  split
  · exact ⟨En h,yN hw⟩
  · exact ⟨h,hw⟩
theorem AS (l:List AFile) (ep:Int) (h:(mkZ ep 0).2=0):bg l ep=if (aQ (mr l) epN (fB (mkZ ep 0).1)).2≠0 then (default,(aQ (mr l) epN (fB (mkZ ep 0).1)).2) else bj (aQ (mr l) epN (fB (mkZ ep 0).1)).1.files epN oq:=by
  unfold bg
  rw [if_neg (fun hh=>hh h)];rfl
theorem Gq {ep:Int} (h:(mkZ ep 0).2=0):bU (mkZ ep 0).1:=by
  unfold mkZ at h ⊢
  split at h
  · cases h
  · rename_i hb
    rw [if_neg hb]
    unfold td at hb;unfold bU;simp only;omega
theorem HD {z:Int} (h:bU z):okS (fB z):=by have:=tD h;unfold okS;omega
set_option maxHeartbeats 4000000 in
theorem Ak (d:ADisk) (ep:Int) (h:d.files.length*48≤140737488351232) (hw:∀ f,f∈d.files→f.wf):ab Tryz.prog [] 184 [d.av,I ep] (ret (.tup [(bg d.files ep).1.av,I (bg d.files ep).2])):=by
  have hmk:=zy ep 0
  by_cases hm:(mkZ ep 0).2=0
  case neg=>
    have e:bg d.files ep=(default,(mkZ ep 0).2):=by unfold bg;rw [if_pos hm]
    rw [e]
    generalize mkZ ep 0=m at hm hmk ⊢
    refine zJ Tryz.func184 Tryz.ntmps184 Tryz.results184 ?_;simp only [go_sem]
    (refine zW qw (z1 hmk) @two.eq_1 (z1 ?_)<;>(repeat with_reducible intro hc))
    all_goals first | (exfalso;exact absurd (by assumption) hm) | (exfalso;exact absurd hm (by assumption)) | skip
    all_goals exact zEe dfl
  rw [AS _ _ hm]
  have hg:=Gq hm
  have ht:=F2 (mkZ ep 0).1
  rw [B6,if_pos hg] at ht
  have hrm:=EK d epN h hw
  obtain ⟨l1,l2⟩:=BB h hw
  have hwr:=vI ⟨mr d.files⟩ epN (fB (mkZ ep 0).1) (HD hg) A1 l1 l2
  have hsy:=Fs (aQ (mr d.files) epN (fB (mkZ ep 0).1)).1 epN jj (de A1 l2)
  have hls:mr d.files=if (bu d.files epN).2=0 then (bu d.files epN).1.files else d.files:=rfl
  generalize mkZ ep 0=m at hm hmk ht hwr hsy ⊢
  obtain ⟨z,e0⟩:=m
  simp only at hm hmk ht hwr hsy ⊢
  subst hm
  generalize fB z=s at ht hwr hsy ⊢
  generalize mr d.files=L at hwr hsy hls ⊢
  generalize aQ L epN s=Q at hwr hsy ⊢
  obtain ⟨wd,we⟩:=Q
  simp only at hwr hsy ⊢
  generalize bj wd.files epN oq=R at hsy ⊢
  obtain ⟨sd,se⟩:=R
  simp only at hsy ⊢
  generalize bu d.files epN=M at hrm hls
  obtain ⟨rd,re⟩:=M
  simp only at hrm hls
  simp only [epN] at hrm hwr hsy
  by_cases hre:re=0
  · subst hre
    rw [if_pos rfl] at hls
    subst hls
    refine zJ Tryz.func184 Tryz.ntmps184 Tryz.results184 ?_;simp only [go_sem]
    (repeat' first
  | (with_reducible refine AR.f ?_)
  | refine ap (by decide) ?_
  | (with_reducible refine AWP.cond rfl ?_ ?_<;>intro hc<;>(try simp only [hcs,beq_iff_eq,ge_iff_le,gt_iff_lt] at hc))
  | ((first | ((first | (with_reducible first | refine zR ?_ | refine zQ (by decide +kernel) ?_ | refine zD (by decide +kernel) ?_ | refine zE (by decide +kernel) ?_ | refine zG (by decide +kernel) ?_));intro K hK) | ((first | refine zA hmk ?_ ?_ ?_ ?_ ?_ | refine zA ht ?_ ?_ ?_ ?_ ?_ | refine zA hrm ?_ ?_ ?_ ?_ ?_ | refine zA hwr ?_ ?_ ?_ ?_ ?_ | refine zA hsy ?_ ?_ ?_ ?_ ?_);(focus exact rfl);(focus exact rfl);iterate 2 (focus ((try simp (disch:=omega) only [go_sem,aa,two])<;>(try omega)<;>fail))) | ((first | refine zN hrm rfl ?_ ?_ | refine zN hwr rfl ?_ ?_ | refine zN hsy rfl ?_ ?_ | refine zX hmk rfl ?_ ?_ | refine zX ht rfl ?_ ?_ | refine zX hrm rfl ?_ ?_ | refine zY hrm ?_ ?_ | refine zX hwr rfl ?_ ?_ | refine zY hwr ?_ ?_ | refine zX hsy rfl ?_ ?_ | refine zY hsy ?_ ?_);(focus ((try simp (disch:=omega) only [go_sem,aa,two])<;>(try omega)<;>fail))) | ((first | (with_reducible refine aunder_i ?_ ?_<;>intro hg) | with_reducible intro hg)<;>(first | (exfalso;simp at hg;done) | (have hg':=hg;(try simp only [hcs,beq_iff_eq,ge_iff_le,gt_iff_lt] at hg');(try simp only [hg])))))<;>(try simp (disch:=omega) only [go_sem,aa,two])<;>(repeat' with_reducible refine And.intro ?_ ?_)<;>(try (with_reducible refine hK _ ?_;clear hK K)))
  | omega)
    all_goals first
      | (rw [if_pos (by assumption)];(refine zE2 dfl ?_;(try simp (disch:=omega) only [go_sem,aa,dfl,I,B,S,zj]));done)
      | (rw [if_neg (by omega)];(refine zE2 trivial ?_;(try simp (disch:=omega) only [go_sem,aa,I,B,S,zj]));done)
  · rw [if_neg hre] at hls
    subst hls
    refine zJ Tryz.func184 Tryz.ntmps184 Tryz.results184 ?_;simp only [go_sem]
    (repeat' first
  | (with_reducible refine AR.f ?_)
  | refine ap (by decide) ?_
  | (with_reducible refine AWP.cond rfl ?_ ?_<;>intro hc<;>(try simp only [hcs,beq_iff_eq,ge_iff_le,gt_iff_lt] at hc))
  | ((first | ((first | (with_reducible first | refine zR ?_ | refine zQ (by decide +kernel) ?_ | refine zD (by decide +kernel) ?_ | refine zE (by decide +kernel) ?_ | refine zG (by decide +kernel) ?_));intro K hK) | ((first | refine zA hmk ?_ ?_ ?_ ?_ ?_ | refine zA ht ?_ ?_ ?_ ?_ ?_ | refine zA hrm ?_ ?_ ?_ ?_ ?_ | refine zA hwr ?_ ?_ ?_ ?_ ?_ | refine zA hsy ?_ ?_ ?_ ?_ ?_);(focus exact rfl);(focus exact rfl);iterate 2 (focus ((try simp (disch:=omega) only [go_sem,aa,two])<;>(try omega)<;>fail))) | ((first | refine zN hrm rfl ?_ ?_ | refine zN hwr rfl ?_ ?_ | refine zN hsy rfl ?_ ?_ | refine zX hmk rfl ?_ ?_ | refine zX ht rfl ?_ ?_ | refine zX hrm rfl ?_ ?_ | refine zY hrm ?_ ?_ | refine zX hwr rfl ?_ ?_ | refine zY hwr ?_ ?_ | refine zX hsy rfl ?_ ?_ | refine zY hsy ?_ ?_);(focus ((try simp (disch:=omega) only [go_sem,aa,two])<;>(try omega)<;>fail))) | ((first | (with_reducible refine aunder_i ?_ ?_<;>intro hg) | with_reducible intro hg)<;>(first | (exfalso;simp at hg;done) | (have hg':=hg;(try simp only [hcs,beq_iff_eq,ge_iff_le,gt_iff_lt] at hg');(try simp only [hg])))))<;>(try simp (disch:=omega) only [go_sem,aa,two])<;>(repeat' with_reducible refine And.intro ?_ ?_)<;>(try (with_reducible refine hK _ ?_;clear hK K)))
  | omega)
    all_goals first | (exfalso;exact absurd (by assumption) hre) | skip
    all_goals first
      | (rw [if_pos (by assumption)];(refine zE2 dfl ?_;(try simp (disch:=omega) only [go_sem,aa,dfl,I,B,S,zj]));done)
      | (rw [if_neg (by omega)];(refine zE2 trivial ?_;(try simp (disch:=omega) only [go_sem,aa,I,B,S,zj]));done)
set_option maxHeartbeats 4000000 in
theorem FW (id:Int) (d:ADisk) (h:d.files.length*48≤140737488351232) (hw:∀ f,f∈d.files→f.wf):ab Tryz.prog [] 53 [I id,d.av] (ret (.tup [(cD id d.files).1.av,I (cD id d.files).2])):=by
  have he:=ug d h hw
  have hr:=ly d h hw
  unfold cD
  generalize fI d.files=ep at he ⊢
  generalize recoverD d.files=R at hr ⊢
  obtain ⟨l,d2,e⟩:=R
  simp only at hr ⊢
  refine zJ Tryz.func53 Tryz.ntmps53 Tryz.results53 ?_;simp only [go_sem]
  (refine zW qw (z4 qBo0 he hr KY) trivial (z4 ?_ ?_ ?_ ?_)<;>(repeat with_reducible intro hc))
  all_goals first
    | (rw [if_pos (by omega)];(refine zE2 dfl ?_;(try simp (disch:=omega) only [go_sem,aa,dfl,I,B,S,zj]));done)
    | (rw [if_neg (by omega),if_pos (by omega)];(refine zE2 dfl ?_;(try simp (disch:=omega) only [go_sem,aa,dfl,I,B,S,zj]));done)
    | (rw [if_neg (by omega),if_neg (by omega)];(refine zE2 @t00.eq_1 ?_;(try simp (disch:=omega) only [go_sem,aa,t00,I,B,S,zj]));done)
theorem mc (l:List AFile) (ep:Int):(bg l ep).1.files.length*48≤140737488351232:=by
  by_cases hm:(mkZ ep 0).2=0
  · rw [AS _ _ hm]
    split
    · exact (by decide:([]:List AFile).length*48≤140737488351232)
    · exact u4 jj
  · have e:bg l ep=(default,(mkZ ep 0).2):=by unfold bg;rw [if_pos hm]
    rw [e]
    exact (by decide:([]:List AFile).length*48≤140737488351232)
theorem qD:∀ (a b:List ATxn) (k:Nat),(∀ j,j < k→(a.getD j default).zxid=(b.getD j default).zxid)→k≤a.length→k≤b.length→(k < a.length→k < b.length→(a.getD k default).zxid≠(b.getD k default).zxid)→bf a b=k
  | [],b,k,_,ha,_,_=>by simp at ha;subst ha;unfold bf;rfl
  | x::a,[],k,_,_,hb,_=>by simp at hb;subst hb;unfold bf;rfl
  | x::a,y::b,0,_,_,_,hs=>by
    have h0:=hs (by simp) (by simp)
    simp only [List.getD_cons_zero] at h0
    unfold bf;rw [if_neg h0]
  | x::a,y::b,k+1,h,ha,hb,hs=>by
    have h0:=h 0 (by omega)
    simp only [List.getD_cons_zero] at h0
    unfold bf;rw [if_pos h0]
    rw [qD a b k (fun j hj=>by simpa using h (j+1) (by omega)) (by simpa using ha) (by simpa using hb) (fun h1 h2=>by simpa using hs (by simpa using h1) (by simpa using h2))]
theorem yE {l:List AFile} {key:List UInt8} (hw:∀ f,f∈l→f.wf):∀ f,f∈(bj l key oq).1.files→f.wf:=by
  intro f hf
  by_cases hg:bE l=true
  · by_cases hm:key∈l.map AFile.name
    · rw [gM hg hm rfl] at hf
      have hk:=((gI.1 hg).2 _ (gb hg hm)).1.2
      rcases List.mem_or_eq_of_mem_set hf with h | h
      · exact hw f h
      · subst h
        obtain ⟨g1,_,_,_⟩:=iE hw (place (l.map AFile.name) key)
        exact ⟨g1,by show okS (_++_);unfold okS;rw [List.length_append];omega,by show okS [];unfold okS;decide⟩
    · rw [kS hg hm] at hf;cases hf
  · rw [mB hg] at hf;cases hf
theorem wY {l:List AFile} {z:Int} (hw:∀ f,f∈l→f.wf):∀ f,f∈(keepD l z).1.files→f.wf:=by
  intro f hf
  by_cases h:(recoverD l).2.2=0
  · have o:=jE h
    rw [rc h] at hf
    rcases List.mem_or_eq_of_mem_set hf with h1 | h1
    · exact o.wf hw f h1
    · subst h1
      have hl:(encs (keepL (recoverD l).1 z)).length≤1048576:=Nat.le_trans (pN _ _) o.len
      exact ⟨iH,by show okS (encs (keepL (recoverD l).1 z));unfold okS;omega,by show okS [];unfold okS;decide⟩
  · rw [BN h] at hf;cases hf
theorem nh {l:List AFile} {ep:Int} (h:l.length*48≤140737488351232) (hw:∀ f,f∈l→f.wf):∀ f,f∈(bg l ep).1.files→f.wf:=by
  by_cases hm:(mkZ ep 0).2=0
  · rw [AS _ _ hm]
    split
    · intro f hf;cases hf
    · exact yE (de A1 (BB h hw).2)
  · have e:bg l ep=(default,(mkZ ep 0).2):=by unfold bg;rw [if_pos hm]
    rw [e];intro f hf;cases hf
theorem yY {l:List AFile} {t:ATxn} {safe:Bool} (hw:∀ f,f∈l→f.wf):∀ f,f∈(da l t safe).1.files→f.wf:=by
  unfold da
  split
  · intro f hf;cases hf
  · split
    · exact de iH hw
    · exact yE (de iH hw)
theorem iA:(default:AServer).wf:=
  ⟨trivial,⟨by decide,fun _ h=>by cases h⟩,⟨⟨by decide,by decide⟩,⟨by decide,by decide⟩,⟨by decide,fun _ h=>by cases h⟩,⟨by decide,by decide⟩⟩,⟨⟨by decide,by decide⟩,⟨by decide,fun _ h=>by cases h⟩,⟨by decide,fun _ h=>by cases h⟩⟩,⟨by decide,fun _ h=>by cases h⟩⟩
theorem wA {s:AServer} {x:ATxn} {safe:Bool} (hw:s.wf) (hx:x.wf) (hl:s.peer.log.length≤1048576):(bi s x safe).1.wf:=by
  obtain ⟨_,h1,h2,h3,h4⟩:=hw
  unfold bi
  split
  · exact iA
  split
  · refine ⟨trivial,⟨DW,yY h1.2⟩,⟨h2.1,h2.2.1,⟨?_,fun y hy=>?_⟩,h2.2.2.2⟩,h3,h4⟩
    · show (s.peer.log++[x]).length*72≤_;rw [List.length_append,List.length_singleton];omega
    · rcases List.mem_append.1 hy with hy | hy
      · exact h2.2.2.1.2 y hy
      · rw [List.mem_singleton.1 hy];exact hx
  · exact iA
theorem xx {s:AServer} {x:ATxn} {safe:Bool}:(bi s x safe).1.peer.log.length≤s.peer.log.length+1:=by
  unfold bi
  split
  · exact Nat.zero_le _
  split
  · show (s.peer.log++[x]).length≤_;rw [List.length_append,List.length_singleton];exact Nat.le_refl _
  · exact Nat.zero_le _
theorem sS (l:List ATxn) (k:Nat) (h:k < l.length):l.drop k=l.getD k default::l.drop (k+1):=by
  rw [List.drop_eq_getElem_cons h,List.getD_eq_getElem?_getD,List.getElem?_eq_getElem h];rfl
structure GS (s:AServer):Prop where
  w:s.wf
  t:okT s.tree
  p:∀ x,x∈s.peer.log→x.path.length≤1048576
theorem d6:GS default:=⟨iA,⟨iA.2.2.2.1,fun _ h=>by cases h⟩,fun _ h=>by cases h⟩
theorem BV {s:AServer} {x:ATxn} {safe:Bool} (h:GS s) (hx:x.wf) (hp:x.path.length≤1048576) (hl:s.peer.log.length≤1048576):GS (bi s x safe).1:=by
  refine ⟨wA h.w hx hl,?_,?_⟩
  · unfold bi
    split
    · exact d6.t
    split
    · exact h.t
    · exact d6.t
  · unfold bi
    split
    · exact d6.p
    split
    · intro y hy
      rcases List.mem_append.1 hy with hy | hy
      · exact h.p y hy
      · rw [List.mem_singleton.1 hy];exact hp
    · exact d6.p
theorem yx:∀ (r:List ATxn) {s:AServer},GS s→(∀ x,x∈r→x.wf∧x.path.length≤1048576)→s.peer.log.length+r.length≤1048576→GS (ey s r).1
  | [],s,h,_,_=>h
  | x :: r,s,h,hr,hl=>by
    rw [List.length_cons] at hl
    rw [ey]
    split
    · have:=xx (s:=s) (x:=x) (safe:=true)
      obtain ⟨a,b⟩:=hr x (List.mem_cons_self ..)
      exact yx r (BV h a b (by omega)) (fun y hy=>hr y (List.mem_cons_of_mem _ hy)) (by omega)
    · exact d6
def MP (s:AServer) (l:List ATxn) (ep:Int) (k:Nat):AServer×Int:=
  if (k:Int) < s.peer.done then (default,13) else
  if (keepD s.disk.files (fu l k)).2≠0 then (default,(keepD s.disk.files (fu l k)).2) else
  if (bg (keepD s.disk.files (fu l k)).1.files ep).2≠0 then (default,(bg (keepD s.disk.files (fu l k)).1.files ep).2) else
  ey ⟨s.up,(bg (keepD s.disk.files (fu l k)).1.files ep).1,⟨s.peer.id,ep,s.peer.log.take k,s.peer.done⟩,s.tree,s.watches⟩ (l.drop k)
theorem I6 (s:AServer) (l:List ATxn) (ep:Int):aH s l ep=MP s l ep (bf l s.peer.log):=rfl
theorem CN {x:ATxn} {r:List ATxn} {s:AServer} (h:(bi s x true).2=0):ey s (x::r)=ey (bi s x true).1 r:=by rw [ey,if_pos h]
theorem DO {x:ATxn} {r:List ATxn} {s:AServer} (h:¬ (bi s x true).2=0):ey s (x::r)=(default,(bi s x true).2):=by rw [ey,if_neg h]
structure TkInv (X:List ATxn) (F:AServer×Int) (v:Nat×AServer):Prop where
  k:v.1≤X.length
  f:ey v.2 (X.drop v.1)=F
  w:v.2.wf
  l:v.2.peer.log.length+(X.length - v.1)≤1048576
theorem TkInv.next {X:List ATxn} {F:AServer×Int} {v:Nat×AServer} (h:TkInv X F v) (hk:v.1 < X.length) (hX:∀ x,x∈X→x.wf) (h0:(bi v.2 (X.getD v.1 default) true).2=0):TkInv X F (v.1+1,(bi v.2 (X.getD v.1 default) true).1):=by
  obtain ⟨h1,h2,h3,h4⟩:=h
  have hx:=hX _ (cu X default hk)
  have hd:=sS X v.1 hk
  rw [hd,CN h0] at h2
  have:=xx (s:=v.2) (x:=X.getD v.1 default) (safe:=true)
  exact ⟨hk,h2,wA h3 hx (by omega),by simp only;omega⟩
theorem TkInv.stop {X:List ATxn} {F:AServer×Int} {v:Nat×AServer} (h:TkInv X F v) (hk:v.1 < X.length) (h0:¬ (bi v.2 (X.getD v.1 default) true).2=0):F=(default,(bi v.2 (X.getD v.1 default) true).2):=by
  have h2:=h.f
  rw [sS X v.1 hk,DO h0] at h2
  exact h2.symm
theorem TkInv.end {X:List ATxn} {F:AServer×Int} {v:Nat×AServer} (h:TkInv X F v) (hk:¬ v.1 < X.length):F=(v.2,0):=by
  have h2:=h.f
  rw [List.drop_of_length_le (by have:=h.k;omega)] at h2
  exact h2.symm
theorem BP {s:AServer} {d:ADisk} {ep:Int} {k:Nat} (hw:s.wf) (hd:d.wf) (he:okI ep):AServer.wf ⟨s.up,d,⟨s.peer.id,ep,s.peer.log.take k,s.peer.done⟩,s.tree,s.watches⟩:=by
  obtain ⟨_,h1,h2,h3,h4⟩:=hw
  have:=h2.2.2.1.1
  exact ⟨trivial,hd,⟨h2.1,he,⟨by show (s.peer.log.take k).length*72≤_;rw [List.length_take];omega,fun y hy=>h2.2.2.1.2 y (List.mem_of_mem_take hy)⟩,h2.2.2.2⟩,h3,h4⟩
theorem DP {s:AServer} {l:List ATxn} {ep:Int} (h:GS s) (hl:∀ x,x∈l→x.wf∧x.path.length≤1048576) (hll:l.length≤1048576) (he:okI ep):GS (aH s l ep).1:=by
  have hk:=j0 l s.peer.log
  unfold aH
  split
  · exact d6
  split
  · exact d6
  split
  · exact d6
  · obtain ⟨_,h1,h2,h3,h4⟩:=h.w
    refine yx _ ⟨BP h.w ⟨mc _ _,nh B7 (wY h1.2)⟩ he,h.t,fun x hx=>h.p x (List.mem_of_mem_take hx)⟩ (fun x hx=>hl x (List.mem_of_mem_drop hx)) ?_
    show (s.peer.log.take _).length+_≤_
    rw [List.length_take,List.length_drop];omega
set_option maxHeartbeats 8000000 in
theorem Fi (s:AServer) (l:List ATxn) (ep:Int) (hw:s.wf) (hlw:∀ x,x∈l→x.wf) (hll:l.length≤1048576) (he:okI ep):ab Tryz.prog [] 114 [s.av,.d (.sl 7 (l.map ATxn.row)),I ep] (ret (.tup [(aH s l ep).1.av,I (aH s l ep).2])):=by
  have hw0:=hw
  obtain ⟨_,h1,h2,h3,h4⟩:=hw
  have hl7:=h2.2.2.1.1
  have hok0:=h2.2.2.2
  rw [I6]
  generalize hC:bf l s.peer.log=C
  refine zJ Tryz.func114 Tryz.ntmps114 Tryz.results114 ?_;simp only [go_sem]
  (refine zW qw zn trivial (z1 ?_)<;>(repeat with_reducible intro hc))
  refine AWP.loopB (ι:=Nat) (fun k=>k≤l.length∧k≤s.peer.log.length∧∀ j,j < k→(l.getD j default).zxid=(s.peer.log.getD j default).zxid) (fun k=>l.length - k) [1,2,3,6] (fun k=>[(8,I k)]) (fun k=>[.cells [B s.up,.d (.sl 3 (s.disk.files.map AFile.row)),I s.peer.id,I s.peer.epoch,.d (.sl 7 (s.peer.log.map ATxn.row)),I s.peer.done,I s.tree.zxid,.d (.sl 9 (s.tree.nodes.map ANode.row)),.d (.sl 1 (s.tree.sessions.map cW)),.d (.sl 3 (s.watches.map AWatch.row))],.cells [B false,.d (.sc (.slice none 0 0)),I 0,I 0,.d (.sc (.slice none 0 0)),I 0,I 0,.d (.sc (.slice none 0 0)),.d (.sc (.slice none 0 0)),.d (.sc (.slice none 0 0))]]) 0 ?_ ?_ ?_
  · exact ⟨Nat.zero_le _,Nat.zero_le _,fun j hj=>by omega⟩
  · simp only [go_sem];exact zSm trivial
  intro k ⟨hk1,hk2,hk3⟩
  simp only [go_sem]
  by_cases hgo:k < l.length∧k < s.peer.log.length∧(l.getD k default).zxid=(s.peer.log.getD k default).zxid
  · obtain ⟨g1,g2,g3⟩:=hgo
    (refine zW qw zn (zx (fun z=>ATxn.rgetD l k z g1) (zx (fun z=>ATxn.rgetD s.peer.log k z g2) (zx @g3 (zx @g1 @g2)))) (z1 ?_)<;>(repeat with_reducible intro hc))
    all_goals first | (exfalso;omega) | skip
    refine ⟨k+1,⟨by omega,by omega,fun j hj=>?_⟩,by omega,?_⟩
    · by_cases e:j=k
      · subst e;exact g3
      · exact hk3 j (by omega)
    · exact zSm trivial
  have hkC:C=k:=by rw [←hC];exact qD _ _ _ hk3 hk1 hk2 fun a b c=>hgo ⟨a,b,c⟩
  subst hkC
  have hkp:=LD s.disk (fu l C) h1.1 h1.2
  have kwf:=B7 (l:=s.disk.files) (z:=fu l C)
  have kfw:=wY (z:=fu l C) h1.2
  have hrm:=Ak (keepD s.disk.files (fu l C)).1 ep kwf kfw
  have rwf:=mc (keepD s.disk.files (fu l C)).1.files ep
  have rfw:=nh (ep:=ep) kwf kfw
  have hbz:fu l C=if 0 < C then (l.getD (C - 1) default).zxid else -1:=rfl
  have hXe:List.take (l.length - C) (List.drop C (l.map ATxn.row))=(l.drop C).map ATxn.row:=by rw [←List.map_drop];exact List.take_of_length_le (by simp)
  have hYe:List.take C (s.peer.log.map ATxn.row)=(s.peer.log.take C).map ATxn.row:=by rw [List.map_take]
  have hYl:(s.peer.log.take C).length=C:=by rw [List.length_take];omega
  have hXl:(l.drop C).length=l.length - C:=List.length_drop
  have hXw:∀ x,x∈l.drop C→x.wf:=fun x hx=>hlw x (List.mem_of_mem_drop hx)
  unfold MP
  by_cases hd:(C:Int) < s.peer.done
  · rw [if_pos hd]
    (refine zW qw zn trivial (z1 ?_)<;>(repeat with_reducible intro hc))
    all_goals first | (exfalso;omega) | skip
    all_goals exact zEe dfl
  rw [if_neg hd]
  have hsw (d:ADisk) (hd:d.wf):=BP (k:=C) hw0 hd he
  generalize fu l C=bz at hbz hkp hrm kwf kfw rwf rfw ⊢
  generalize keepD s.disk.files bz=K at hkp hrm kwf kfw rwf rfw ⊢
  obtain ⟨kd,ke⟩:=K
  simp only at hkp hrm kwf kfw rwf rfw ⊢
  generalize bg kd.files ep=R at hrm rwf rfw ⊢
  obtain ⟨rd,re⟩:=R
  simp only at hrm rwf rfw ⊢
  have hrw:rd.wf:=⟨rwf,rfw⟩
  have hsw:=hsw rd hrw
  generalize hX:l.drop C=X at hXe hXl hXw ⊢
  generalize hY:s.peer.log.take C=Y at hYe hYl hsw ⊢
  have hYt:List.take C (Y.map ATxn.row)=Y.map ATxn.row:=List.take_of_length_le (by simp;omega)
  have hmn:min C s.peer.log.length=C:=Nat.min_eq_left hk2
  generalize hF:(if ke≠0 then ((default:AServer),ke) else if re≠0 then (default,re) else ey ⟨s.up,rd,⟨s.peer.id,ep,Y,s.peer.done⟩,s.tree,s.watches⟩ X)=F
  by_cases h0:0 < C
  · rw [if_pos h0] at hbz
    subst hbz
    (refine zW qw (z2 hkp hrm) (zx (fun z=>ATxn.rgetD l (C - 1) z (by omega)) (zx @hXe (zx @hYe (zx @wx (zx @Nat.sub_zero @hmn))))) (z3 ?_ ?_ ?_)<;>(repeat with_reducible intro hc))
    · rw [if_pos hc] at hF
      subst hF
      exact zEe dfl
    · rw [if_neg (by omega),if_pos hc] at hF
      subst hF
      exact zEe dfl
    · rw [if_neg (by omega),if_neg (by omega)] at hF
      refine AWP.weaken (aF.frzC 0 4 rfl rfl rfl (by first | (simp;done) | (simp;omega)) (by decide) (fun j hj=>absurd hj (Nat.not_lt_zero j))) ?_
      simp only [go_sem]
      refine AWP.loopB (ι:=Nat×AServer) (fun v=>TkInv X F v) (fun v=>X.length - v.1) [3,6,92,93] (fun v=>[(94,I v.1)]) (fun v=>[.cells [B v.2.up,.d (.sl 3 (v.2.disk.files.map AFile.row)),I v.2.peer.id,I v.2.peer.epoch,.d (.sl 7 (v.2.peer.log.map ATxn.row)),I v.2.peer.done,I v.2.tree.zxid,.d (.sl 9 (v.2.tree.nodes.map ANode.row)),.d (.sl 1 (v.2.tree.sessions.map cW)),.d (.sl 3 (v.2.watches.map AWatch.row))],.cells [B false,.d (.sc (.slice none 0 0)),I 0,I 0,.d (.sc (.slice none 0 0)),I 0,I 0,.d (.sc (.slice none 0 0)),.d (.sc (.slice none 0 0)),.d (.sc (.slice none 0 0))]]) (0,⟨s.up,rd,⟨s.peer.id,ep,Y,s.peer.done⟩,s.tree,s.watches⟩) ?_ ?_ ?_
      · exact ⟨Nat.zero_le _,hF,hsw,by simp only;omega⟩
      · simp only [go_sem];exact zFr [0,1] (zx @List.drop_zero.{0} @hYt)
      intro v hv
      simp only [go_sem]
      have hvk:=hv.k
      by_cases hk4:v.1 < X.length
      · have hxw:=hXw _ (cu X default hk4)
        have hvl:=hv.l
        have ht:=Af v.2 (X.getD v.1 default) true hv.w hxw (by omega)
        have hrow:∀ z,List.getD (X.map ATxn.row) v.1 z=(X.getD v.1 default).row:=fun z=>ATxn.rgetD X v.1 z hk4
        by_cases ht0:(bi v.2 (X.getD v.1 default) true).2=0
        · have hnx:=hv.next hk4 hXw ht0
          generalize X.getD v.1 default=x at ht ht0 hnx hrow
          generalize bi v.2 x true=q at ht ht0 hnx
          obtain ⟨q1,q2⟩:=q
          simp only at ht ht0 hnx
          (refine zW qw (z1 ht) (zx @hrow @ATxn.row.eq_1) (z1 ?_)<;>(repeat with_reducible intro hc))
          all_goals first | (exfalso;omega) | skip
          refine ⟨(v.1+1,q1),hnx,by simp only;omega,?_⟩
          exact zFr [0,1] trivial
        · have hst:=hv.stop hk4 ht0
          generalize X.getD v.1 default=x at ht ht0 hst hrow
          generalize bi v.2 x true=q at ht ht0 hst
          obtain ⟨q1,q2⟩:=q
          simp only at ht ht0 hst
          subst hst
          (refine zW qw (z1 ht) (zx @hrow @ATxn.row.eq_1) (z1 ?_)<;>(repeat with_reducible intro hc))
          all_goals first | (exfalso;omega) | skip
          exact zEe dfl
      · have hst:=hv.end hk4
        subst hst
        (refine zW qw zn trivial (z1 ?_)<;>(repeat with_reducible intro hc))
        all_goals first | (exfalso;omega) | skip
        exact zEe trivial
  · rw [if_neg h0] at hbz
    subst hbz
    (refine zW qw (z2 hkp hrm) (zx @hXe (zx @hYe (zx @Nat.sub_zero @hmn))) (z3 ?_ ?_ ?_)<;>(repeat with_reducible intro hc))
    · rw [if_pos hc] at hF
      subst hF
      exact zEe dfl
    · rw [if_neg (by omega),if_pos hc] at hF
      subst hF
      exact zEe dfl
    · rw [if_neg (by omega),if_neg (by omega)] at hF
      refine AWP.weaken (aF.frzC 0 4 rfl rfl rfl (by first | (simp;done) | (simp;omega)) (by decide) (fun j hj=>absurd hj (Nat.not_lt_zero j))) ?_
      simp only [go_sem]
      refine AWP.loopB (ι:=Nat×AServer) (fun v=>TkInv X F v) (fun v=>X.length - v.1) [3,6,92,93] (fun v=>[(94,I v.1)]) (fun v=>[.cells [B v.2.up,.d (.sl 3 (v.2.disk.files.map AFile.row)),I v.2.peer.id,I v.2.peer.epoch,.d (.sl 7 (v.2.peer.log.map ATxn.row)),I v.2.peer.done,I v.2.tree.zxid,.d (.sl 9 (v.2.tree.nodes.map ANode.row)),.d (.sl 1 (v.2.tree.sessions.map cW)),.d (.sl 3 (v.2.watches.map AWatch.row))],.cells [B false,.d (.sc (.slice none 0 0)),I 0,I 0,.d (.sc (.slice none 0 0)),I 0,I 0,.d (.sc (.slice none 0 0)),.d (.sc (.slice none 0 0)),.d (.sc (.slice none 0 0))]]) (0,⟨s.up,rd,⟨s.peer.id,ep,Y,s.peer.done⟩,s.tree,s.watches⟩) ?_ ?_ ?_
      · exact ⟨Nat.zero_le _,hF,hsw,by simp only;omega⟩
      · simp only [go_sem];exact zFr [0,1] (zx @List.drop_zero.{0} @hYt)
      intro v hv
      simp only [go_sem]
      have hvk:=hv.k
      by_cases hk4:v.1 < X.length
      · have hxw:=hXw _ (cu X default hk4)
        have hvl:=hv.l
        have ht:=Af v.2 (X.getD v.1 default) true hv.w hxw (by omega)
        have hrow:∀ z,List.getD (X.map ATxn.row) v.1 z=(X.getD v.1 default).row:=fun z=>ATxn.rgetD X v.1 z hk4
        by_cases ht0:(bi v.2 (X.getD v.1 default) true).2=0
        · have hnx:=hv.next hk4 hXw ht0
          generalize X.getD v.1 default=x at ht ht0 hnx hrow
          generalize bi v.2 x true=q at ht ht0 hnx
          obtain ⟨q1,q2⟩:=q
          simp only at ht ht0 hnx
          (refine zW qw (z1 ht) (zx @hrow @ATxn.row.eq_1) (z1 ?_)<;>(repeat with_reducible intro hc))
          all_goals first | (exfalso;omega) | skip
          refine ⟨(v.1+1,q1),hnx,by simp only;omega,?_⟩
          exact zFr [0,1] trivial
        · have hst:=hv.stop hk4 ht0
          generalize X.getD v.1 default=x at ht ht0 hst hrow
          generalize bi v.2 x true=q at ht ht0 hst
          obtain ⟨q1,q2⟩:=q
          simp only at ht ht0 hst
          subst hst
          (refine zW qw (z1 ht) (zx @hrow @ATxn.row.eq_1) (z1 ?_)<;>(repeat with_reducible intro hc))
          all_goals first | (exfalso;omega) | skip
          exact zEe dfl
      · have hst:=hv.end hk4
        subst hst
        (refine zW qw zn trivial (z1 ?_)<;>(repeat with_reducible intro hc))
        all_goals first | (exfalso;omega) | skip
        exact zEe trivial
theorem qh (a:List ATxn) (h:a.length*72≤140737488351232):ab Tryz.prog [] 30 [.d (.sl 7 (a.map ATxn.row)),.d (.sl 7 (a.map ATxn.row))] (ret (B true)):=by
  refine zJ Tryz.func30 Tryz.ntmps30 Tryz.results30 ?_;simp only [go_sem]
  (refine zW qw zn trivial (z1 ?_)<;>(repeat with_reducible intro hc))
  refine AWP.loopS (ι:=Nat) (fun k=>k≤a.length) (fun k=>a.length - k) [0,1] (fun k=>[(5,I k)]) 0 ?_ (by simp (disch:=omega) only [go_sem,aa,true_and]) ?_
  · omega
  intro k hk
  simp only [go_sem]
  (refine zW qw zn trivial (z2 ?_ ?_)<;>(repeat with_reducible intro hc))
  · refine ⟨k+1,by omega,by omega,?_⟩
    exact zSm trivial
  · exact zEe trivial
theorem yF (a:ATree) (ha:a.wf):ab Tryz.prog [] 33 [a.av,a.av] (ret (B true)):=by
  obtain ⟨hz,⟨hn,hnw⟩,⟨hs,hsw⟩⟩:=ha
  refine zJ Tryz.func33 Tryz.ntmps33 Tryz.results33 ?_;simp only [go_sem]
  (refine zW qw zn trivial (z1 ?_)<;>(repeat with_reducible intro hc))
  refine AWP.loopS (ι:=Nat) (fun k=>k≤a.nodes.length) (fun k=>a.nodes.length - k) [2,3] (fun k=>[(5,I k)]) 0 ?_ (by simp (disch:=omega) only [go_sem,aa,true_and]) ?_
  · omega
  intro k hk
  simp only [go_sem]
  (refine zW qw zn trivial (z2 ?_ ?_)<;>(repeat with_reducible intro hc))
  · refine ⟨k+1,by omega,by omega,?_⟩
    exact zSm trivial
  clear hk hc
  refine AWP.loopS (ι:=Nat) (fun j=>j≤a.sessions.length) (fun j=>a.sessions.length - j) [2,3] (fun j=>[(6,I j)]) 0 ?_ (by simp (disch:=omega) only [go_sem,aa,true_and]) ?_
  · omega
  intro j hj
  simp only [go_sem]
  (refine zW qw zn trivial (z2 ?_ ?_)<;>(repeat with_reducible intro hc))
  · refine ⟨j+1,by omega,by omega,?_⟩
    exact zSm trivial
  · exact zEe trivial
theorem mh (a:AServer) (hw:a.wf):ab Tryz.prog [] 41 [a.av,a.av] (ret (B true)):=by
  obtain ⟨_,h1,h2,h3,h4⟩:=hw
  have hl1:=h1.1
  have hl5:=h4.1
  have ht:=yF a.tree h3
  have hl:=qh a.peer.log h2.2.2.1.1
  refine zJ Tryz.func41 Tryz.ntmps41 Tryz.results41 ?_;simp only [go_sem]
  (repeat' first
| (with_reducible refine AR.f ?_)
| refine ap (by decide) ?_
| (with_reducible refine AWP.cond rfl ?_ ?_<;>intro hc<;>(try simp only [hcs,beq_iff_eq,ge_iff_le,gt_iff_lt] at hc))
| ((first | ((first | (with_reducible first | refine zR ?_ | refine zQ (by decide +kernel) ?_ | refine zD (by decide +kernel) ?_ | refine zE (by decide +kernel) ?_ | refine zG (by decide +kernel) ?_));intro K hK) | ((first | refine zA hl ?_ ?_ ?_ ?_ ?_ | refine zA ht ?_ ?_ ?_ ?_ ?_);(focus exact rfl);(focus exact rfl);iterate 2 (focus ((try simp (disch:=omega) only [go_sem,aa,List.append_eq])<;>(try omega)<;>fail))) | ((first | refine zX hl rfl ?_ ?_ | refine zX ht rfl ?_ ?_);(focus ((try simp (disch:=omega) only [go_sem,aa,List.append_eq])<;>(try omega)<;>fail))) | ((first | (with_reducible refine aunder_i ?_ ?_<;>intro hg) | with_reducible intro hg)<;>(first | (exfalso;simp at hg;done) | (have hg':=hg;(try simp only [hcs,beq_iff_eq,ge_iff_le,gt_iff_lt] at hg');(try simp only [hg])))))<;>(try simp (disch:=omega) only [go_sem,aa,List.append_eq])<;>(repeat' with_reducible refine And.intro ?_ ?_)<;>(try (with_reducible refine hK _ ?_;clear hK K)))
| omega)
  refine AWP.loopS (ι:=Nat) (fun k=>k≤a.disk.files.length) (fun k=>a.disk.files.length - k) [2,3] (fun k=>[(5,I k)]) 0 ?_ (by simp (disch:=omega) only [go_sem,aa,true_and]) ?_
  · omega
  intro k hk
  simp only [go_sem]
  (refine zW qw zn trivial (z2 ?_ ?_)<;>(repeat with_reducible intro hc))
  · refine ⟨k+1,by omega,by omega,?_⟩
    exact zSm trivial
  clear hk hc
  refine AWP.loopS (ι:=Nat) (fun j=>j≤a.watches.length) (fun j=>a.watches.length - j) [2,3] (fun j=>[(6,I j)]) 0 ?_ (by simp (disch:=omega) only [go_sem,aa,true_and]) ?_
  · omega
  intro j hj
  simp only [go_sem]
  (refine zW qw zn trivial (z2 ?_ ?_)<;>(repeat with_reducible intro hc))
  · refine ⟨j+1,by omega,by omega,?_⟩
    exact zSm trivial
  · exact zEe trivial
theorem mt (a:AClient) (h:a.cache.length*40≤140737488351232):ab Tryz.prog [] 42 [a.av,a.av] (ret (B true)):=by
  refine zJ Tryz.func42 Tryz.ntmps42 Tryz.results42 ?_;simp only [go_sem]
  (refine zW qw zn trivial (z1 ?_)<;>(repeat with_reducible intro hc))
  refine AWP.loopS (ι:=Nat) (fun k=>k≤a.cache.length) (fun k=>a.cache.length - k) [2,3] (fun k=>[(5,I k)]) 0 ?_ (by simp (disch:=omega) only [go_sem,aa,true_and]) ?_
  · omega
  intro k hk
  simp only [go_sem]
  (refine zW qw zn trivial (z2 ?_ ?_)<;>(repeat with_reducible intro hc))
  · refine ⟨k+1,by omega,by omega,?_⟩
    exact zSm trivial
  · exact zEe trivial
theorem vO (a:AReply) (h:a.notes.length*32≤140737488351232):ab Tryz.prog [] 45 [a.av,a.av] (ret (B true)):=by
  refine zJ Tryz.func45 Tryz.ntmps45 Tryz.results45 ?_;simp only [go_sem]
  (refine zW qw zn trivial (z1 ?_)<;>(repeat with_reducible intro hc))
  refine AWP.loopS (ι:=Nat) (fun k=>k≤a.notes.length) (fun k=>a.notes.length - k) [2,3] (fun k=>[(5,I k)]) 0 ?_ (by simp (disch:=omega) only [go_sem,aa,true_and]) ?_
  · omega
  intro k hk
  simp only [go_sem]
  (refine zW qw zn trivial (z2 ?_ ?_)<;>(repeat with_reducible intro hc))
  · refine ⟨k+1,by omega,by omega,?_⟩
    exact zSm trivial
  · exact zEe trivial
def lZ (k n:Int):Int:=if k.tmod n < 0 then k.tmod n+n else k.tmod n
theorem rJ (k:Int) {n:Nat} (h:0 < n):0≤lZ k n∧lZ k n < n:=by
  have h1:=Int.tmod_lt_of_pos k (show (0:Int) < n by omega)
  have h2:=Int.lt_tmod_of_pos k (show (0:Int) < n by omega)
  unfold lZ
  split<;>omega
theorem Be (k n:Int) (h0:0 < n) (h1:n≤100000):ab Tryz.prog [] 28 [I k,I n] (ret (I (lZ k n))):=by
  have h1:=Int.tmod_lt_of_pos k h0
  have h2:=Int.lt_tmod_of_pos k h0
  unfold lZ
  refine zJ Tryz.func28 Tryz.ntmps28 Tryz.results28 ?_;simp only [go_sem]
  (refine zW qw zn trivial (z2 ?_ ?_)<;>(repeat with_reducible intro hc))
  · rw [if_pos (by assumption)];exact zEe trivial
  · rw [if_neg (by omega)];exact zEe trivial
structure CW where
  s:Nat→AServer
  c:Nat→AClient
  leader:Int
  f:Nat→Bool
  n:Nat
  deeds:Int
namespace CW
def setS (v:CW) (i:Nat) (x:AServer):CW:={ v with s:=fun j=>if j=i then x else v.s j }
def setC (v:CW) (i:Nat) (x:AClient):CW:={ v with c:=fun j=>if j=i then x else v.c j }
def setF (v:CW) (i:Nat) (b:Bool):CW:={ v with f:=fun j=>if j=i then b else v.f j }
def setL (v:CW) (l:Int):CW:={ v with leader:=l }
def setD (v:CW) (d:Int):CW:={ v with deeds:=d }
def setN (v:CW) (n:Nat):CW:={ v with n:=n }
def noF (v:CW):CW:={ v with f:=fun _=>false }
end CW
def svC (s:AServer):List AV:=[.d (.bool s.up),.d (.sl 3 (s.disk.files.map AFile.row)),I s.peer.id,I s.peer.epoch,.d (.sl 7 (s.peer.log.map ATxn.row)),I s.peer.done,I s.tree.zxid,.d (.sl 9 (s.tree.nodes.map ANode.row)),.d (.sl 1 (s.tree.sessions.map cW)),.d (.sl 3 (s.watches.map AWatch.row))]
def clC (c:AClient):List AV:=[I c.session,I c.seen,.d (.sl 3 (c.cache.map AEntry.row))]
def wC (v:CW) (k:Nat):List AV:=svC (v.s 0)++(svC (v.s 1)++(svC (v.s 2)++(clC (v.c 0)++(clC (v.c 1)++(clC (v.c 2)++(clC (v.c 3)++(clC (v.c 4)++(clC (v.c 5)++(clC (v.c 6)++(clC (v.c 7)++(clC (v.c 8)++(clC (v.c 9)++(clC (v.c 10)++(clC (v.c 11)++(clC (v.c 12)++(clC (v.c 13)++(clC (v.c 14)++(clC (v.c 15)++[I v.leader,B (v.f 0),B (v.f 1),B (v.f 2),.osl k 7 0 v.n,I v.deeds]))))))))))))))))))
theorem LZ (v:CW) (k:Nat):(wC v k).length=84:=by
  rfl
theorem cgL (v:CW) (k:Nat):(wC v k).getD 78 .any=I v.leader:=by
  rfl
theorem cgDe (v:CW) (k:Nat):(wC v k).getD 83 .any=I v.deeds:=by
  rfl
theorem cgN (v:CW) (k:Nat):(wC v k).getD 82 .any=.osl k 7 0 v.n:=by
  rfl
theorem cgF (v:CW) (k i:Nat) (h:i < 3):(wC v k).getD (79+i) .any=B (v.f i):=by
  rcases i with _ | _ | _ | i<;>first | rfl | omega
theorem cgUp (v:CW) (k i:Nat) (h:i < 3):(wC v k).getD (i*10) .any=B (v.s i).up:=by
  rcases i with _ | _ | _ | i<;>first | rfl | omega
theorem Mo (v:CW) (k i:Nat) (h:i < 3):((wC v k).drop (i*10+1)).take 1=[.d (.sl 3 ((v.s i).disk.files.map AFile.row))]:=by
  rcases i with _ | _ | _ | i<;>first | rfl | omega
theorem Mp (v:CW) (k i:Nat) (h:i < 3):((wC v k).drop (i*10+2)).take 4=[I (v.s i).peer.id,I (v.s i).peer.epoch,.d (.sl 7 ((v.s i).peer.log.map ATxn.row)),I (v.s i).peer.done]:=by
  rcases i with _ | _ | _ | i<;>first | rfl | omega
theorem M0 (v:CW) (k i:Nat) (h:i < 3):(wC v k).getD (i*10+4) .any=.d (.sl 7 ((v.s i).peer.log.map ATxn.row)):=by
  rcases i with _ | _ | _ | i<;>first | rfl | omega
theorem L5 (v:CW) (k i:Nat) (h:i < 3):((wC v k).drop (i*10+6)).take 3=[I (v.s i).tree.zxid,.d (.sl 9 ((v.s i).tree.nodes.map ANode.row)),.d (.sl 1 ((v.s i).tree.sessions.map cW))]:=by
  rcases i with _ | _ | _ | i<;>first | rfl | omega
theorem cgTz (v:CW) (k i:Nat) (h:i < 3):(wC v k).getD (i*10+6) .any=I (v.s i).tree.zxid:=by
  rcases i with _ | _ | _ | i<;>first | rfl | omega
theorem Na (v:CW) (k i:Nat) (h:i < 3):(wC v k).getD (i*10+9) .any=.d (.sl 3 ((v.s i).watches.map AWatch.row)):=by
  rcases i with _ | _ | _ | i<;>first | rfl | omega
theorem cgSv (v:CW) (k i:Nat) (h:i < 3):((wC v k).drop (i*10)).take 10=[.d (.bool (v.s i).up),.d (.sl 3 ((v.s i).disk.files.map AFile.row)),I (v.s i).peer.id,I (v.s i).peer.epoch,.d (.sl 7 ((v.s i).peer.log.map ATxn.row)),I (v.s i).peer.done,I (v.s i).tree.zxid,.d (.sl 9 ((v.s i).tree.nodes.map ANode.row)),.d (.sl 1 ((v.s i).tree.sessions.map cW)),.d (.sl 3 ((v.s i).watches.map AWatch.row))]:=by
  rcases i with _ | _ | _ | i<;>first | rfl | omega
theorem cgCl (v:CW) (k i:Nat) (h:i < 16):((wC v k).drop (30+i*3)).take 3=[I (v.c i).session,I (v.c i).seen,.d (.sl 3 ((v.c i).cache.map AEntry.row))]:=by
  rcases i with _ | _ | _ | _ | _ | _ | _ | _ | _ | _ | _ | _ | _ | _ | _ | _ | i<;>first | rfl | omega
theorem NN (v:CW) (k i:Nat) (h:i < 16):(wC v k).getD (30+i*3) .any=I (v.c i).session:=by
  rcases i with _ | _ | _ | _ | _ | _ | _ | _ | _ | _ | _ | _ | _ | _ | _ | _ | i<;>first | rfl | omega
theorem csL (v:CW) (k:Nat):∀ l:Int,(wC v k).set 78 (I l)=wC (v.setL l) k:=by
  intro l;rfl
theorem csDe (v:CW) (k:Nat):∀ l:Int,(wC v k).set 83 (I l)=wC (v.setD l) k:=by
  intro l;rfl
theorem csN (v:CW) (k:Nat):∀ q n:Nat,(wC v k).set 82 (.osl q 7 0 n)=wC (v.setN n) q:=by
  intro q n;rfl
theorem csF (v:CW) (k i:Nat) (h:i < 3):∀ b:Bool,(wC v k).set (79+i) (B b)=wC (v.setF i b) k:=by
  intro b;rcases i with _ | _ | _ | i<;>first | rfl | omega
theorem csFs (v:CW) (k:Nat):spl (wC v k) [B false,B false,B false] 79=wC v.noF k:=by
  rfl
theorem MS (v:CW) (k i:Nat) (h:i < 3):∀ l:List AWatch,(wC v k).set (i*10+9) (.d (.sl 3 (l.map AWatch.row)))=wC (v.setS i ⟨(v.s i).up,(v.s i).disk,(v.s i).peer,(v.s i).tree,l⟩) k:=by
  intro l;rcases i with _ | _ | _ | i<;>first | rfl | omega
theorem csSv (v:CW) (k i:Nat) (h:i < 3):∀ x:AServer,spl (wC v k) (svC x) (i*10)=wC (v.setS i x) k:=by
  intro x;rcases i with _ | _ | _ | i<;>first | rfl | omega
theorem csCl (v:CW) (k i:Nat) (h:i < 16):∀ x:AClient,spl (wC v k) (clC x) (30+i*3)=wC (v.setC i x) k:=by
  intro x;rcases i with _ | _ | _ | _ | _ | _ | _ | _ | _ | _ | _ | _ | _ | _ | _ | _ | i<;>first | rfl | omega
theorem HU (v:CW) (i:Nat) (x:AServer):(v.setS i x).s i=x:=if_pos rfl
theorem M6 (v:CW) (k i:Nat) (h:i < 3):List.take 10 (List.drop (i*10) (List.take 30 (wC v k)))=[.d (.bool (v.s i).up),.d (.sl 3 ((v.s i).disk.files.map AFile.row)),I (v.s i).peer.id,I (v.s i).peer.epoch,.d (.sl 7 ((v.s i).peer.log.map ATxn.row)),I (v.s i).peer.done,I (v.s i).tree.zxid,.d (.sl 9 ((v.s i).tree.nodes.map ANode.row)),.d (.sl 1 ((v.s i).tree.sessions.map cW)),.d (.sl 3 ((v.s i).watches.map AWatch.row))]:=by
  rcases i with _ | _ | _ | i<;>first | rfl | omega
theorem M3 (v:CW) (k i:Nat) (h:i < 16) (a b:Int) (l:List AEntry):(wC v k).take (30+i*3)++[.d (.int .i64 a),.d (.int .i64 b),.d (.sl 3 (l.map AEntry.row))]++(wC v k).drop (30+i*3+3)=wC (v.setC i ⟨a,b,l⟩) k:=csCl v k i h ⟨a,b,l⟩
theorem cwSv (v:CW) (k i:Nat) (h:i < 3) (up:Bool) (d:List AFile) (id ep:Int) (log:List ATxn) (done tz:Int) (nd:List ANode) (se:List Int) (wt:List AWatch):(wC v k).take (i*10)++[.d (.bool up),.d (.sl 3 (d.map AFile.row)),.d (.int .i64 id),.d (.int .i64 ep),.d (.sl 7 (log.map ATxn.row)),.d (.int .i64 done),.d (.int .i64 tz),.d (.sl 9 (nd.map ANode.row)),.d (.sl 1 (se.map cW)),.d (.sl 3 (wt.map AWatch.row))]++(wC v k).drop (i*10+10)=wC (v.setS i ⟨up,⟨d⟩,⟨id,ep,log,done⟩,⟨tz,nd,se⟩,wt⟩) k:=csSv v k i h ⟨up,⟨d⟩,⟨id,ep,log,done⟩,⟨tz,nd,se⟩,wt⟩
theorem cwFs (v:CW) (k:Nat):(wC v k).take 79++[.d (.bool false),.d (.bool false),.d (.bool false)]++(wC v k).drop 82=wC v.noF k:=csFs v k
theorem MG (v:CW) (i:Nat) (x:AServer):(v.setS i x).c=v.c:=rfl
theorem Nw (v:CW) (i:Nat) (x:AServer):(v.setS i x).leader=v.leader:=rfl
theorem MA (v:CW) (i:Nat) (x:AServer):(v.setS i x).f=v.f:=rfl
theorem NP (v:CW) (i:Nat) (x:AServer):(v.setS i x).n=v.n:=rfl
theorem NG (v:CW) (i:Nat) (x:Bool):(v.setF i x).s=v.s:=rfl
theorem MY (v:CW) (i:Nat) (x:Bool):(v.setF i x).c=v.c:=rfl
theorem MO (v:CW) (i:Nat) (x:Bool):(v.setF i x).leader=v.leader:=rfl
theorem NM (v:CW) (i:Nat) (x:Bool):(v.setF i x).n=v.n:=rfl
theorem MV (v:CW) (i:Nat) (x:AClient):(v.setC i x).s=v.s:=rfl
theorem NB (v:CW) (i:Nat) (x:AClient):(v.setC i x).leader=v.leader:=rfl
theorem Nc (v:CW) (i:Nat) (x:AClient):(v.setC i x).f=v.f:=rfl
theorem M2 (v:CW) (i:Nat) (x:AClient):(v.setC i x).n=v.n:=rfl
theorem Nf (v:CW) (x:Int):(v.setL x).s=v.s:=rfl
theorem Np (v:CW) (x:Int):(v.setL x).c=v.c:=rfl
theorem M9 (v:CW) (x:Int):(v.setL x).n=v.n:=rfl
theorem NQ (v:CW) (x:Int):(v.setL x).leader=x:=rfl
theorem Nr (v:CW) (x:Nat):(v.setN x).s=v.s:=rfl
theorem Nz (v:CW) (x:Nat):(v.setN x).c=v.c:=rfl
theorem Ng (v:CW) (x:Nat):(v.setN x).leader=v.leader:=rfl
theorem MK (v:CW) (x:Nat):(v.setN x).n=x:=rfl
theorem JM (v:CW):v.noF.s=v.s:=rfl
theorem Kg (v:CW):v.noF.c=v.c:=rfl
theorem JO (v:CW):v.noF.n=v.n:=rfl
theorem J4 (v:CW):v.noF.leader=v.leader:=rfl
attribute [go_sem] LZ cgL cgDe cgN cgF cgUp Mo Mp M0 L5 cgTz Na cgSv cgCl NN csL csDe csN csF MS M3 cwSv cwFs HU MG Nw MA NP NG MY MO NM MV NB Nc M2 Nf Np M9 NQ Nr Nz Ng MK JM Kg JO J4
attribute [go_sem] M6 Nat.add_zero Nat.mul_one
theorem sI (f:Nat→Nat) (v:CW) (k:Nat):renL f (wC v k)=wC v (f k):=rfl
theorem BS (n:Nat) (v:CW) (k:Nat) (h:k < n):inL n (wC v k):=by
  unfold wC svC clC
  simp only [List.cons_append,List.nil_append,inL,inV]
  simp only [and_true,true_and]
  exact h
theorem yv (v:CW) (k:Nat):(wC v k)[82]?=some (.osl k 7 0 v.n):=rfl
theorem nU (v:CW) (k q:Nat):(wC v k).set 82 (.osl q 7 0 v.n)=wC v q:=rfl
theorem ag.world {hp:List ABlk} {cs:List AV} {rs:List (List DV)} {v:CW} (h0:hp[0]?=some (.cells (wC v 1))) (h1:hp[1]?=some (.rows 7 rs)) (hc:cs[11]?=some (.d (.sc (.slice none 0 0)))) (hin:cf cs) :
    ag 2 hp (.agg cs) (cp (.agg (cs.set 11 (.osl 3 3 0 0))) [.cells (wC v 2),.dead,.rows 7 rs,.rows 3 []]):=by
  have hl0:0 < hp.length:=(List.getElem?_eq_some_iff.1 h0).1
  have hl1:1 < hp.length:=(List.getElem?_eq_some_iff.1 h1).1
  have s1:=aF.moveOwnC 0 82 (np:=2) (nt:=1) (env:=[(0,AV.agg cs)]) h0 (yv v 1) h1 (by simp) (by decide)
  rw [nU] at s1
  have s2:=aF.nilOwnA 0 11 3 (np:=2) (nt:=1) (env:=[(0,AV.agg cs)]) (hp:=(hp.set 1 .dead).set 0 (.cells (wC v hp.length))++[.rows 7 rs]) (cs:=cs) rfl hc
  refine ag.of_simp (v':=.agg (cs.set 11 (.osl 3 3 0 0))) (hp':=[.cells (wC v 2),.dead,.rows 7 rs,.rows 3 []]) (aF.trans s1 (aF.trans s2 (aF.frame [0,1,hp.length,hp.length+1] rfl (fun i hi=>?_) ?_ (fun k hk=>?_) ?_ ?_))) (ag.same ⟨rfl,rfl⟩)
  · simp only [List.mem_cons,List.not_mem_nil,or_false] at hi
    simp only [List.length_append,List.length_set,List.length_cons,List.length_nil]
    omega
  · simp only [List.nodup_cons,List.mem_cons,List.not_mem_nil,or_false,not_or,not_false_eq_true,List.nodup_nil,and_true]
    omega
  · rcases k with _ | _ | k
    · rfl
    · rfl
    · omega
  · refine ⟨⟨?_,?_⟩,trivial⟩
    · simp only [bR,if_true,List.length_append,List.length_set,List.length_cons,List.length_nil]
      simp only [renV]
      rw [yC,(dx _ cs hin).1]
      rfl
    · exact Ca _ _ _ _ (o8 (Nat.zero_le _) _ (dx (fun k=>k) cs hin).2) (by show 3 < 4;decide)
  · refine ⟨.inr ⟨?_,?_⟩,.inl rfl,.inr ⟨?_,?_⟩,.inr ⟨?_,?_⟩,trivial⟩
    · show ((((hp.set 1 .dead).set 0 (ABlk.cells (wC v hp.length))++[ABlk.rows 7 rs])++[ABlk.rows 3 []])[0]?)=some (ABlk.cells (renL _ (wC v 2)))
      rw [sI]
      rw [List.getElem?_append_left (by simp),List.getElem?_append_left (by simp;omega),List.getElem?_set_self (by simp;omega)]
      rfl
    · exact BS _ _ _ (show 2 < 4 by decide)
    · show ((((hp.set 1 ABlk.dead).set 0 (ABlk.cells (wC v hp.length))++[ABlk.rows 7 rs])++[ABlk.rows 3 []])[hp.length]?)=_
      rw [List.getElem?_append_left (by simp),List.getElem?_append_right (by simp)]
      simp [renB]
    · trivial
    · show ((((hp.set 1 ABlk.dead).set 0 (ABlk.cells (wC v hp.length))++[ABlk.rows 7 rs])++[ABlk.rows 3 []])[hp.length+1]?)=_
      rw [List.getElem?_append_right (by simp)]
      simp [renB]
    · trivial
theorem Mg (n:Nat) (v:CW) (k:Nat):inL n (wC v k)=(k < n):=by
  unfold wC svC clC
  simp only [List.cons_append,List.nil_append,inL,inV]
  simp only [and_true,true_and]
theorem gv:∀ (ks:List Nat) (hp:List ABlk) (j:Nat),j∉ks→(killIds ks hp)[j]?=hp[j]?
  | [],hp,j,_=>rfl
  | k::r,hp,j,h=>by
    rw [killIds,gv r _ j (fun hh=>h (List.mem_cons_of_mem _ hh)),List.getElem?_set_ne (fun e=>h (by rw [e];exact List.mem_cons_self ..))]
theorem kO:∀ (ks:List Nat) (hp:List ABlk),(killIds ks hp).length=hp.length
  | [],hp=>rfl
  | k::r,hp=>by rw [killIds,kO r,List.length_set]
theorem ag.data2 {hp:List ABlk} {v y:AV} {W:CW} {rs:List (List DV)} (h0:hp[0]?=some (.cells (wC W 1))) (h1:hp[1]?=some (.rows 7 rs)) (hi:∀ j,j∈dO v→2≤j) (hf:bJ hp v) (hn:bV (aZ hp v)) (hc:cY (aZ hp v) y) (hy:bV y) :
    ag 2 hp v (cp y [.cells (wC W 1),.rows 7 rs]):=by
  have hl0:0 < hp.length:=(List.getElem?_eq_some_iff.1 h0).1
  have hl1:1 < hp.length:=(List.getElem?_eq_some_iff.1 h1).1
  have hlk:=kO (dO v) hp
  have s1:=aF.frzW 0 (np:=2) (nt:=1) (env:=[(0,v)]) (hp:=hp) (v:=v) (fun j hj=>by
    refine ⟨fun hh=>by have:=hi j hh;omega,?_⟩
    rcases j with _ | _ | j
    · exact ⟨_,h0,by simp⟩
    · exact ⟨_,h1,by simp⟩
    · omega) rfl hf hn
  have hren:=jr (mAt [0,1] (killIds (dO v) hp).length) (aZ hp v) hn
  refine ag.of_simp (v':=aZ hp v) (hp':=[.cells (wC W 1),.rows 7 rs]) (aF.trans s1 (aF.frame [0,1] rfl (fun i hi=>?_) (by decide) (fun k hk=>?_) ?_ ?_)) (ag.coe hc (ag.same ⟨rfl,rfl⟩))
  · simp only [List.mem_cons,List.not_mem_nil,or_false] at hi
    omega
  · rcases k with _ | _ | k
    · rfl
    · rfl
    · omega
  · refine ⟨⟨?_,ro (Nat.zero_le _) _ hren.2⟩,trivial⟩
    simp only [bR,if_true]
    exact hren.1.symm
  · refine ⟨.inr ⟨?_,?_⟩,.inr ⟨?_,trivial⟩,trivial⟩
    · show (killIds (dO v) hp)[0]?=some (.cells (renL _ (wC W 1)))
      rw [sI,gv _ _ _ (fun hh=>by have:=hi 0 hh;omega),h0]
      rfl
    · exact BS _ _ _ (show 1 < 2 by decide)
    · show (killIds (dO v) hp)[1]?=some (.rows 7 rs)
      rw [gv _ _ _ (fun hh=>by have:=hi 1 hh;omega),h1]
theorem Kr (f:Nat→Nat) (v:CW) (k:Nat):renL f (List.take 30 (wC v k))=List.take 30 (wC v k):=rfl
theorem Mf (n:Nat) (v:CW) (k:Nat):inL n (List.take 30 (wC v k))=True:=by
  refine eq_true ?_
  show inL n (svC (v.s 0)++(svC (v.s 1)++svC (v.s 2)))
  unfold svC
  simp only [List.cons_append,List.nil_append,inL,inV,and_self]
attribute [go_sem] sI Mg Kr Mf
theorem ag.data1 {hp:List ABlk} {v y:AV} {sz:Nat} {rs:List (List DV)} (h0:hp[0]?=some (.rows sz rs)) (hi:∀ j,j∈dO v→1≤j) (hf:bJ hp v) (hn:bV (aZ hp v)) (hc:cY (aZ hp v) y) (hy:bV y) :
    ag 1 hp v (cp y [.rows sz rs]):=by
  have hl0:0 < hp.length:=(List.getElem?_eq_some_iff.1 h0).1
  have hlk:=kO (dO v) hp
  have s1:=aF.frzW 0 (np:=1) (nt:=1) (env:=[(0,v)]) (hp:=hp) (v:=v) (fun j hj=>by
    refine ⟨fun hh=>by have:=hi j hh;omega,?_⟩
    rcases j with _ | j
    · exact ⟨_,h0,by simp⟩
    · omega) rfl hf hn
  have hren:=jr (mAt [0] (killIds (dO v) hp).length) (aZ hp v) hn
  refine ag.of_simp (v':=aZ hp v) (hp':=[.rows sz rs]) (aF.trans s1 (aF.frame [0] rfl (fun i hi=>?_) (by decide) (fun k hk=>?_) ?_ ?_)) (ag.coe hc (ag.same ⟨rfl,rfl⟩))
  · simp only [List.mem_cons,List.not_mem_nil,or_false] at hi
    omega
  · rcases k with _ | k
    · rfl
    · omega
  · refine ⟨⟨?_,ro (Nat.zero_le _) _ hren.2⟩,trivial⟩
    simp only [bR,if_true]
    exact hren.1.symm
  · refine ⟨.inr ⟨?_,trivial⟩,trivial⟩
    show (killIds (dO v) hp)[0]?=some (.rows sz rs)
    rw [gv _ _ _ (fun hh=>by have:=hi 0 hh;omega),h0]
set_option maxHeartbeats 4000000 in
theorem IR (c:AClient) (l:List ANote) (h:c.cache.length≤100000) (hl:l.length*32≤140737488351232) (hr:aU (c.cache.map AEntry.path)) :
    ab Tryz.prog [.rows 3 (l.map ANote.row)] 187 [c.av,.osl 0 3 0 l.length] (cp (AClient.av ⟨c.session,c.seen,d7 c.session c.cache l⟩) [.rows 3 (l.map ANote.row)]):=by
  have hb:c.cache.length*40≤140737488351232:=by omega
  refine zJ Tryz.func187 Tryz.ntmps187 Tryz.results187 ?_;simp only [go_sem]
  (refine zW qw (z1 (nD c hb)) trivial (z1 ?_)<;>(repeat with_reducible intro hc))
  refine AWP.loopB (ι:=Nat) (fun k=>k≤l.length) (fun k=>l.length - k) [2,4,11,12] (fun k=>[(13,I k)]) (fun k=>[.rows 3 (l.map ANote.row),.cells [I c.session,I c.seen,.osl 3 3 0 (d7 c.session c.cache (l.take k)).length],.cells [I 0,I 0,.d (.sc (.slice none 0 0))],.rows 3 ((d7 c.session c.cache (l.take k)).map AEntry.row)]) 0 ?_ ?_ ?_
  · omega
  · simp only [go_sem,zH];exact zSm trivial
  intro k hk
  obtain ⟨hr1,hn1⟩:=xM (s:=c.session) (l.take k) hr
  have hb1:(d7 c.session c.cache (l.take k)).length*40≤140737488351232:=by omega
  have hpl:=ul (l:=d7 c.session c.cache (l.take k)) (key:=(l.getD k default).event.path)
  simp only [go_sem]
  by_cases hm:(l.getD k default).event.path∈(d7 c.session c.cache (l.take k)).map AEntry.path
  · have hlt:=uJ hr1 hm
    (refine zW qw (z2 ((qn ⟨c.session,c.seen,d7 c.session c.cache (l.take k)⟩ (l.getD k default).event.path hb1 hr1).re (by simp only;rw [decide_eq_true hm])) (ow (A5 ((d7 c.session c.cache (l.take k)).map AEntry.row) (place ((d7 c.session c.cache (l.take k)).map AEntry.path) (l.getD k default).event.path) (by simpa using hlt) (by simpa using hb1)))) (zx @ANote.rgetD @df) (z3 ?_ ?_ ?_)<;>(repeat with_reducible intro hc))
    · refine ⟨k+1,by omega,by omega,?_⟩
      rw [jL _ _ _ _ (by assumption),xF (fun h=>hc.elim (fun x=>x h.1) (fun x=>h.2 x))]
      exact zFr [0,1,2,3] trivial
    · refine ⟨k+1,by omega,by omega,?_⟩
      rw [jL _ _ _ _ (by assumption),tI (by assumption),ya hr1 hm]
      have hel:=dJ _ _ hlt
      exact zFr [0,1,2,5] @hel
    · have e:k=l.length:=by omega
      subst e
      simp only [List.take_length]
      (refine zO ?_ ?_;(focus ((try simp (disch:=omega) only [go_sem,aa])<;>fail));simp (disch:=omega) only [go_sem,aa];refine ag.data1 rfl (by intro j hj;simp only [go_sem,List.mem_append,List.mem_cons,List.not_mem_nil,or_false,false_or,List.nil_append,List.append_nil,List.cons_append] at hj;omega) ?_ ?_ ?_ ?_<;>simp (disch:=omega) only [go_sem,aa,I,B,S,zj,Nat.le_refl])
  · (refine zW qw (z1 ((qn ⟨c.session,c.seen,d7 c.session c.cache (l.take k)⟩ (l.getD k default).event.path hb1 hr1).re (by simp only;rw [decide_eq_false hm]))) @ANote.rgetD (z3 ?_ ?_ ?_)<;>(repeat with_reducible intro hc))
    · refine ⟨k+1,by omega,by omega,?_⟩
      rw [jL _ _ _ _ (by assumption),xF (fun h=>hc.elim (fun x=>x h.1) (fun x=>h.2 x))]
      exact zFr [0,1,2,3] trivial
    · refine ⟨k+1,by omega,by omega,?_⟩
      rw [jL _ _ _ _ (by assumption),tI (by assumption),Am hm]
      exact zFr [0,1,2,3] trivial
    · have e:k=l.length:=by omega
      subst e
      simp only [List.take_length]
      (refine zO ?_ ?_;(focus ((try simp (disch:=omega) only [go_sem,aa])<;>fail));simp (disch:=omega) only [go_sem,aa];refine ag.data1 rfl (by intro j hj;simp only [go_sem,List.mem_append,List.mem_cons,List.not_mem_nil,or_false,false_or,List.nil_append,List.append_nil,List.cons_append] at hj;omega) ?_ ?_ ?_ ?_<;>simp (disch:=omega) only [go_sem,aa,I,B,S,zj,Nat.le_refl])
theorem qUd0:Pls [Plan.takes [0,1,2,3,4,5,6,7,8,10,11,9,12,13] .done]:=pls _
def kf (ns:List ANote) (c:AClient):AClient:=⟨c.session,c.seen,d7 c.session c.cache ns⟩
def CW.told (v:CW) (ns:List ANote) (k:Nat):CW:={ v with c:=fun j=>if j < k then kf ns (v.c j) else v.c j }
theorem Ks (v:CW) (ns:List ANote) (k:Nat):(v.told ns k).c k=v.c k:=if_neg (Nat.lt_irrefl k)
theorem Dc (v:CW) (ns:List ANote):v.told ns 0=v:=by
  unfold CW.told
  have:(fun j=>if j < 0 then kf ns (v.c j) else v.c j)=v.c:=funext fun j=>if_neg (Nat.not_lt_zero j)
  rw [this]
theorem D6 (v:CW) (ns:List ANote) (k:Nat):(v.told ns k).setC k (kf ns (v.c k))=v.told ns (k+1):=by
  unfold CW.told CW.setC
  have:(fun j=>if j=k then kf ns (v.c k) else if j < k then kf ns (v.c j) else v.c j)=fun j=>if j < k+1 then kf ns (v.c j) else v.c j:=funext fun j=>by
    by_cases e:j=k
    · subst e;rw [if_pos rfl,if_pos (Nat.lt_succ_self j)]
    · rw [if_neg e]
      by_cases h:j < k
      · rw [if_pos h,if_pos (by omega)]
      · rw [if_neg h,if_neg (by omega)]
  simp only [this]
set_option maxHeartbeats 4000000 in
theorem Cj (v:CW) (rs:List (List DV)) (ns:List ANote) (hc:∀ i,i < 16→(v.c i).cache.length≤100000∧aU ((v.c i).cache.map AEntry.path)) (hl:ns.length*32≤140737488351232) :
    ab Tryz.prog [.cells (wC v 1),.rows 7 rs,.rows 3 (ns.map ANote.row)] 116 [.ptr 0 0,.osl 2 3 0 ns.length] (cp (.tup []) [.cells (wC (v.told ns 16) 1),.rows 7 rs,.rows 3 (ns.map ANote.row)]):=by
  refine zJ Tryz.func116 Tryz.ntmps116 Tryz.results116 ?_;simp only [go_sem]
  (refine zW qw zn trivial (z1 ?_)<;>(repeat with_reducible intro hc))
  refine AWP.loopB (ι:=Nat) (fun k=>k≤16) (fun k=>16 - k) [0,1] (fun k=>[(5,I k)]) (fun k=>[.cells (wC (v.told ns k) 1),.rows 7 rs,.rows 3 (ns.map ANote.row)]) 0 ?_ ?_ ?_
  · omega
  · simp only [go_sem,Dc];exact zSm trivial
  intro k hk
  simp only [go_sem]
  by_cases hk2:k < 16
  · obtain ⟨c1,c2⟩:=hc k hk2
    have ht:=IR (v.c k) ns c1 hl c2
    (refine zW qw (z2 qUd0 (ac [2] ht)) @Ks (z1 ?_)<;>(repeat with_reducible intro hc))
    refine ⟨k+1,by omega,by omega,?_⟩
    rw [←D6]
    exact zFr [0,1,2] @kf.eq_1
  · have e:k=16:=by omega
    subst e
    (refine zW qw zn trivial (z1 ?_)<;>(repeat with_reducible intro hc))
    (refine zO ?_ ?_;(focus ((try simp (disch:=omega) only [go_sem,aa])<;>fail));simp (disch:=omega) only [go_sem,aa];refine ag.of_simp ?_ (ag.same ⟨rfl,rfl⟩);refine zV [0,1,2] rfl rfl rfl rfl ?_ ?_<;>simp (disch:=omega) only [go_sem,aa,true_or,or_true])
theorem MH:Pls [Plan.takes [0,1,2,3,4,5,6] .done]:=pls _
attribute [go_sem] Tryz.ntmps108 Tryz.results108
def cw (w:AWorld):CW:=⟨w.s,w.c,w.leader,w.f,w.done.length,w.deeds⟩
theorem vi {w:AWorld} {i:Nat} (h:i < w.sv.length) (x:AServer):(cw w).setS i x=cw (w.setS i x):=by
  have:(w.setS i x).s=fun j=>if j=i then x else w.s j:=funext fun j=>dN h x j
  unfold cw CW.setS
  rw [this];rfl
theorem IS {w:AWorld} {i:Nat} (h:i < w.cl.length) (x:AClient):(cw w).setC i x=cw (w.setC i x):=by
  have:(w.setC i x).c=fun j=>if j=i then x else w.c j:=funext fun j=>AK h x j
  unfold cw CW.setC
  rw [this];rfl
theorem vy {w:AWorld} {i:Nat} (h:i < w.fl.length) (x:Bool):(cw w).setF i x=cw (w.setF i x):=by
  have:(w.setF i x).f=fun j=>if j=i then x else w.f j:=funext fun j=>pi h x j
  unfold cw CW.setF
  rw [this];rfl
theorem pz (w:AWorld):((cw w).setL (-1)).noF=cw w.resign:=by
  have:w.resign.f=fun _=>false:=funext fun j=>xc w j
  unfold cw CW.setL CW.noF
  rw [this];rfl
def avN (r:AReply) (nt:AV):AV:=.agg [I r.code,I r.zxid,S r.path,S r.data,I r.stat.czxid,I r.stat.mzxid,I r.stat.pzxid,I r.stat.version,I r.stat.cversion,I r.stat.owner,I r.stat.kids,nt]
abbrev cE (w:AWorld) (r:AReply):AV→List ABlk→Prop:=cp (avN r (.osl 3 3 0 r.notes.length)) [.cells (wC (cw w) 2),.dead,.rows 7 (w.done.map ATxn.row),.rows 3 (r.notes.map ANote.row)]
abbrev inW (w:AWorld):List ABlk:=[.cells (wC (cw w) 1),.rows 7 (w.done.map ATxn.row)]
theorem ag.world0 {hp:List ABlk} {w:AWorld} {r:AReply} (hn:r.notes=[]) (h0:hp[0]?=some (.cells (wC (cw w) 1))) (h1:hp[1]?=some (.rows 7 (w.done.map ATxn.row))) :
    ag 2 hp (avN r (.d (.sc (.slice none 0 0)))) (cE w r):=by
  have h:=ag.world (cs:=[I r.code,I r.zxid,S r.path,S r.data,I r.stat.czxid,I r.stat.mzxid,I r.stat.pzxid,I r.stat.version,I r.stat.cversion,I r.stat.owner,I r.stat.kids,.d (.sc (.slice none 0 0))]) h0 h1 rfl (by simp [cf,bV])
  unfold cE
  rw [hn]
  exact h
theorem ag.worldV {hp:List ABlk} {w:AWorld} {r:AReply} {v:CW} (hv:v=cw w) (hn:r.notes=[]) (h0:hp[0]?=some (.cells (wC v 1))) (h1:hp[1]?=some (.rows 7 (w.done.map ATxn.row))) :
    ag 2 hp (avN r (.d (.sc (.slice none 0 0)))) (cE w r):=by
  subst hv
  exact ag.world0 hn h0 h1
theorem ag.worldM {hp:List ABlk} {w:AWorld} {r:AReply} {v:CW} (p q:Nat) (hv:v=cw w) (h0:hp[0]?=some (.cells (wC v p))) (h1:hp[p]?=some (.rows 7 (w.done.map ATxn.row))) (hp0:p≠0) (hq:hp[q]?=some (.rows 3 (r.notes.map ANote.row))) (hq0:q≠0∧q≠1∧q≠p) :
    ag 2 hp (avN r (.osl q 3 0 r.notes.length)) (cE w r):=by
  subst hv
  have hl0:0 < hp.length:=(List.getElem?_eq_some_iff.1 h0).1
  have hlp:p < hp.length:=(List.getElem?_eq_some_iff.1 h1).1
  have hlq:q < hp.length:=(List.getElem?_eq_some_iff.1 hq).1
  have s1:=aF.moveOwnC 0 82 (np:=2) (nt:=1) (env:=[(0,avN r (.osl q 3 0 r.notes.length))]) h0 (yv (cw w) p) h1 (by simp) hp0
  rw [nU] at s1
  refine ag.of_simp (v':=avN r (.osl 3 3 0 r.notes.length)) (hp':=[.cells (wC (cw w) 2),.dead,.rows 7 (w.done.map ATxn.row),.rows 3 (r.notes.map ANote.row)]) (aF.trans s1 (aF.frame [0,1,hp.length,q] rfl (fun i hi=>?_) ?_ (fun k hk=>?_) ?_ ?_)) (ag.same ⟨rfl,rfl⟩)
  · simp only [List.mem_cons,List.not_mem_nil,or_false] at hi
    simp only [List.length_append,List.length_set,List.length_cons,List.length_nil]
    omega
  · simp only [List.nodup_cons,List.mem_cons,List.not_mem_nil,or_false,not_or,not_false_eq_true,List.nodup_nil,and_true]
    omega
  · rcases k with _ | _ | k
    · rfl
    · rfl
    · omega
  · exact ⟨⟨rfl,⟨trivial,trivial,trivial,trivial,trivial,trivial,trivial,trivial,trivial,trivial,trivial,(show 3 < 4 by decide),trivial⟩⟩,trivial⟩
  · refine ⟨.inr ⟨?_,?_⟩,.inl rfl,.inr ⟨?_,trivial⟩,.inr ⟨?_,trivial⟩,trivial⟩
    · show (((hp.set p ABlk.dead).set 0 (ABlk.cells (wC (cw w) hp.length))++[ABlk.rows 7 (w.done.map ATxn.row)])[0]?)=some (ABlk.cells (renL _ (wC (cw w) 2)))
      rw [sI,List.getElem?_append_left (by simp;omega),List.getElem?_set_self (by simp;omega)]
      rfl
    · exact BS _ _ _ (show 2 < 4 by decide)
    · show (((hp.set p ABlk.dead).set 0 (ABlk.cells (wC (cw w) hp.length))++[ABlk.rows 7 (w.done.map ATxn.row)])[hp.length]?)=_
      rw [List.getElem?_append_right (by simp)]
      simp [renB]
    · show (((hp.set p ABlk.dead).set 0 (ABlk.cells (wC (cw w) hp.length))++[ABlk.rows 7 (w.done.map ATxn.row)])[q]?)=_
      rw [List.getElem?_append_left (by simp;omega),List.getElem?_set_ne (by omega),List.getElem?_set_ne (by omega),hq]
      rfl
theorem cw_s (w:AWorld):(cw w).s=w.s:=rfl
theorem cw_c (w:AWorld):(cw w).c=w.c:=rfl
theorem cw_l (w:AWorld):(cw w).leader=w.leader:=rfl
theorem cw_f (w:AWorld):(cw w).f=w.f:=rfl
theorem cw_n (w:AWorld):(cw w).n=w.done.length:=rfl
theorem cw_d (w:AWorld):(cw w).deeds=w.deeds:=rfl
attribute [go_sem] cw_s cw_c cw_l cw_f cw_n cw_d
structure WL (w:AWorld):Prop where
  sl:w.sv.length=3
  fl:w.fl.length=3
  cl:w.cl.length=16
theorem Kj {w:AWorld} (h:w.sv.length=3) {i:Nat} (hi:i < 3) (x:AServer):(cw w).setS i x=cw (w.setS i x):=vi (by omega) x
theorem cwF1 {w:AWorld} (h:w.fl.length=3) {i:Nat} (hi:i < 3) (b:Bool):(cw w).setF i b=cw (w.setF i b):=vy (by omega) b
theorem Nk {w:AWorld} (h:w.fl.length=3) {i:Nat} (hi:i < 3) (x:AServer) (j:Nat) (b:Bool):(cw (w.setS j x)).setF i b=cw ((w.setS j x).setF i b):=vy (w:=w.setS j x) (show i < w.fl.length by omega) b
theorem Le {w:AWorld} (h:w.cl.length=16) {i:Nat} (hi:i < 16) (x:AClient):(cw w).setC i x=cw (w.setC i x):=IS (by omega) x
set_option maxHeartbeats 8000000 in
theorem GO (w:AWorld) (i:Nat) (keep:Int) (hi:i < 3) (hw:WL w) (hs:(w.s i).wf) (ii:Int) (hii:ii=(i:Int)):ab Tryz.prog (inW w) 59 [.ptr 0 0,I ii,I keep] (cE (dP w i keep).1 (dP w i keep).2):=by
  subst hii
  have hct:=Ik (w.s i) keep hs
  obtain ⟨e1,e2,e3⟩:=hw
  unfold dP
  by_cases hu:(w.s i).up=false
  · rw [if_pos hu]
    unfold inW cE
    refine zJ Tryz.func59 Tryz.ntmps59 Tryz.results59 ?_;simp only [go_sem]
    (refine zW qw zn @hu (z1 ?_)<;>(repeat with_reducible intro hc))
    all_goals first | (exfalso;omega) | skip
    (refine zO ?_ ?_;(focus ((try simp (disch:=omega) only [go_sem,aa])<;>fail));simp (disch:=omega) only [go_sem,aa];exact ag.worldV (r:=noR 14) (rfl) rfl rfl rfl)
  rw [if_neg hu]
  have hu':(w.s i).up=true:=by simpa using hu
  generalize bs (w.s i) keep=q at hct ⊢
  obtain ⟨x,e⟩:=q
  simp only at hct ⊢
  by_cases he:e=0
  case neg=>
    rw [if_pos he]
    unfold inW cE
    refine zJ Tryz.func59 Tryz.ntmps59 Tryz.results59 ?_;simp only [go_sem]
    (refine zW qw (z1 hct) trivial (z2 ?_ ?_)<;>(repeat with_reducible intro hc))
    all_goals first | (exfalso;omega) | (exfalso;exact absurd (by assumption) hu) | skip
    (refine zO ?_ ?_;(focus ((try simp (disch:=omega) only [go_sem,aa])<;>fail));simp (disch:=omega) only [go_sem,aa];exact ag.worldV (r:=noR e) (rfl) rfl rfl rfl)
  subst he
  rw [if_neg (fun h=>h rfl)]
  have h1:((cw w).setS i x).setF i false=cw ((w.setS i x).setF i false):=by rw [vi (by omega),vy (by show i < w.fl.length;omega)]
  by_cases hl:w.leader=(i:Int)
  · rw [if_pos hl]
    unfold inW cE
    refine zJ Tryz.func59 Tryz.ntmps59 Tryz.results59 ?_;simp only [go_sem]
    (refine zW qw (z2 (ic Tryz.func108) hct) @hl (z2 ?_ ?_)<;>(repeat with_reducible intro hc))
    all_goals first | (exfalso;omega) | (exfalso;exact absurd (by assumption) hu) | skip
    (refine zO ?_ ?_;(focus ((try simp (disch:=omega) only [go_sem,aa])<;>fail));simp (disch:=omega) only [go_sem,aa];exact ag.worldV (r:=noR 0) ((congrArg (fun v:CW=>(v.setL (-1)).noF) h1).trans (pz _)) rfl rfl rfl)
  · rw [if_neg hl]
    unfold inW cE
    refine zJ Tryz.func59 Tryz.ntmps59 Tryz.results59 ?_;simp only [go_sem]
    (refine zW qw (z2 (ic Tryz.func108) hct) trivial (z2 ?_ ?_)<;>(repeat with_reducible intro hc))
    all_goals first | (exfalso;omega) | (exfalso;exact absurd (by assumption) hu) | skip
    (refine zO ?_ ?_;(focus ((try simp (disch:=omega) only [go_sem,aa])<;>fail));simp (disch:=omega) only [go_sem,aa];exact ag.worldV (r:=noR 0) (h1) rfl rfl rfl)
set_option maxHeartbeats 8000000 in
theorem Mz (w:AWorld) (i:Nat) (hi:i < 3) (hw:WL w) (hs:(w.s i).wf) (ii:Int) (hii:ii=(i:Int)):ab Tryz.prog (inW w) 58 [.ptr 0 0,I ii] (cE (upW w i).1 (upW w i).2):=by
  subst hii
  have hct:=FW i (w.s i).disk hs.2.1.1 hs.2.1.2
  obtain ⟨e1,e2,e3⟩:=hw
  unfold upW
  by_cases hu:(w.s i).up=true
  · rw [if_pos hu]
    unfold inW cE
    refine zJ Tryz.func58 Tryz.ntmps58 Tryz.results58 ?_;simp only [go_sem]
    (refine zW qw zn @hu (z1 ?_)<;>(repeat with_reducible intro hc))
    all_goals first | (exfalso;omega) | skip
    (refine zO ?_ ?_;(focus ((try simp (disch:=omega) only [go_sem,aa])<;>fail));simp (disch:=omega) only [go_sem,aa];exact ag.worldV (r:=noR 8) (rfl) rfl rfl rfl)
  rw [if_neg hu]
  have hu':(w.s i).up=false:=by simpa using hu
  generalize cD i (w.s i).disk.files=q at hct ⊢
  obtain ⟨x,e⟩:=q
  simp only at hct ⊢
  by_cases he:e=0
  case neg=>
    rw [if_pos he]
    unfold inW cE
    refine zJ Tryz.func58 Tryz.ntmps58 Tryz.results58 ?_;simp only [go_sem]
    (refine zW qw (z2 MH hct) @hu' (z1 ?_)<;>(repeat with_reducible intro hc))
    all_goals first | (exfalso;omega) | skip
    (refine zO ?_ ?_;(focus ((try simp (disch:=omega) only [go_sem,aa])<;>fail));simp (disch:=omega) only [go_sem,aa];exact ag.worldV (r:=noR e) (rfl) rfl rfl rfl)
  subst he
  rw [if_neg (fun h=>h rfl)]
  have h1:(cw w).setS i x=cw (w.setS i x):=vi (by omega) x
  unfold inW cE
  refine zJ Tryz.func58 Tryz.ntmps58 Tryz.results58 ?_;simp only [go_sem]
  (refine zW qw (z2 MH hct) @hu' (z1 ?_)<;>(repeat with_reducible intro hc))
  all_goals first | (exfalso;omega) | skip
  (refine zO ?_ ?_;(focus ((try simp (disch:=omega) only [go_sem,aa])<;>fail));simp (disch:=omega) only [go_sem,aa];exact ag.worldV (r:=noR 0) (h1) rfl rfl rfl)
theorem lJ (w:AWorld):ab Tryz.prog (inW w) 18 [.ptr 0 0] (cp (I w.leader) (inW w)):=by
  unfold inW
  refine zJ Tryz.func18 Tryz.ntmps18 Tryz.results18 ?_;simp only [go_sem]
  (refine zW qw zn trivial (z1 ?_)<;>(repeat with_reducible intro hc))
  all_goals first | (exfalso;omega) | skip
  (refine zO ?_ ?_;(focus ((try simp (disch:=omega) only [go_sem,aa])<;>fail));simp (disch:=omega) only [go_sem,aa];refine ag.of_simp ?_ (ag.same ⟨rfl,rfl⟩);refine zV [0,1] rfl rfl rfl rfl ?_ ?_<;>simp (disch:=omega) only [go_sem,aa,true_or,or_true])
theorem AX (s:AServer) (hw:s.wf):ab Tryz.prog [] 64 [s.av] (cp (.agg [B s.up,.osl 0 3 0 s.disk.files.length,I s.peer.id,I s.peer.epoch,.osl 1 7 0 s.peer.log.length,I s.peer.done,I s.tree.zxid,.osl 2 9 0 s.tree.nodes.length,.osl 3 1 0 s.tree.sessions.length,.osl 4 3 0 s.watches.length]) [.rows 3 (s.disk.files.map AFile.row),.rows 7 (s.peer.log.map ATxn.row),.rows 9 (s.tree.nodes.map ANode.row),.rows 1 (s.tree.sessions.map cW),.rows 3 (s.watches.map AWatch.row)]):=by
  obtain ⟨_,h1,h2,h3,h4⟩:=hw
  have hl1:=h1.1
  have hl2:=h2.2.2.1.1
  have hl3:=h3.2.1.1
  have hl4:=h3.2.2.1
  have hl5:=h4.1
  refine zJ Tryz.func64 Tryz.ntmps64 Tryz.results64 ?_;simp only [go_sem]
  (refine zW qw zn trivial (z1 ?_)<;>(repeat with_reducible intro hc))
  (refine zO ?_ ?_;(focus ((try simp (disch:=omega) only [go_sem,aa])<;>fail));simp (disch:=omega) only [go_sem,aa];refine ag.of_simp ?_ (ag.same ⟨rfl,rfl⟩);refine zV [2,3,4,5,6] rfl rfl rfl rfl ?_ ?_<;>simp (disch:=omega) only [go_sem,aa,true_or,or_true])
theorem fK (w:AWorld) (i:Nat) (hi:i < 3) (hs:(w.s i).wf) (ii:Int) (hii:ii=(i:Int)):ab Tryz.prog (inW w) 22 [.ptr 0 0,I ii] (cp (w.s i).av (inW w)):=by
  subst hii
  unfold inW
  refine zJ Tryz.func22 Tryz.ntmps22 Tryz.results22 ?_;simp only [go_sem]
  (refine zW qw (z1 (AX (w.s i) hs)) trivial (z1 ?_)<;>(repeat with_reducible intro hc))
  all_goals first | (exfalso;omega) | skip
  (refine zO ?_ ?_;(focus ((try simp (disch:=omega) only [go_sem,aa])<;>fail));simp (disch:=omega) only [go_sem,aa];refine ag.data2 rfl rfl (by intro j hj;simp only [go_sem,List.mem_append,List.mem_cons,List.not_mem_nil,or_false,false_or,List.nil_append,List.append_nil,List.cons_append] at hj;omega) ?_ ?_ ?_ ?_<;>simp (disch:=omega) only [go_sem,aa,I,B,S,zj,Nat.le_refl])
theorem C9 (w:AWorld) (i:Nat) (hi:i < 16) (hs:(w.c i).wf) (ii:Int) (hii:ii=(i:Int)):ab Tryz.prog (inW w) 24 [.ptr 0 0,I ii] (cp (w.c i).av (inW w)):=by
  subst hii
  have hl:=hs.2.2.1
  unfold inW
  refine zJ Tryz.func24 Tryz.ntmps24 Tryz.results24 ?_;simp only [go_sem]
  (refine zW qw zn trivial (z1 ?_)<;>(repeat with_reducible intro hc))
  all_goals first | (exfalso;omega) | skip
  (refine zO ?_ ?_;(focus ((try simp (disch:=omega) only [go_sem,aa])<;>fail));simp (disch:=omega) only [go_sem,aa];refine ag.data2 rfl rfl (by intro j hj;simp only [go_sem,List.mem_append,List.mem_cons,List.not_mem_nil,or_false,false_or,List.nil_append,List.append_nil,List.cons_append] at hj;omega) ?_ ?_ ?_ ?_<;>simp (disch:=omega) only [go_sem,aa,I,B,S,zj,Nat.le_refl])
theorem vK (w:AWorld) (hl:w.done.length≤100000):ab Tryz.prog (inW w) 20 [.ptr 0 0] (cp (.d (.sl 7 (w.done.map ATxn.row))) (inW w)):=by
  have t1:List.take w.done.length (w.done.map ATxn.row)=w.done.map ATxn.row:=List.take_of_length_le (by simp)
  unfold inW
  refine zJ Tryz.func20 Tryz.ntmps20 Tryz.results20 ?_;simp only [go_sem]
  (refine zW qw zn @t1 (z1 ?_)<;>(repeat with_reducible intro hc))
  all_goals first | (exfalso;omega) | skip
  (refine zO ?_ ?_;(focus ((try simp (disch:=omega) only [go_sem,aa,t1,Nat.min_self])<;>fail));simp (disch:=omega) only [go_sem,aa,t1,Nat.min_self];refine ag.data2 rfl rfl (by intro j hj;simp only [go_sem,List.mem_append,List.mem_cons,List.not_mem_nil,or_false,false_or,List.nil_append,List.append_nil,List.cons_append] at hj;omega) ?_ ?_ ?_ ?_<;>simp (disch:=omega) only [go_sem,aa,t1,Nat.min_self,I,B,S,zj,Nat.le_refl])
attribute [go_sem] Tryz.ntmps108 Tryz.results108
theorem CI {l:List APeer} (h:(cd l).2.2=0):∃ b:Nat,(cd l).1=(b:Int)∧b < l.length∧okI (cd l).2.1:=by
  unfold cd at h ⊢
  split at h
  · rename_i h0
    rw [if_pos h0]
    split at h
    · exact absurd h (by decide)
    · rename_i h1
      rw [if_neg h1]
      split at h
      · exact absurd h (by decide)
      · rename_i h2
        rw [if_neg h2]
        obtain ⟨a,b,c⟩:=sr l.length h0
        exact ⟨_,rfl,by omega,by simp only;constructor<;>omega⟩
  · exact absurd h (by assumption)
def ez (w:AWorld) (k:Nat):List APeer:=((List.range k).filter fun i=>(w.s i).up).map fun i=>(w.s i).peer
theorem eW (w:AWorld) (k:Nat):ez w (k+1)=if (w.s k).up=true then ez w k++[(w.s k).peer] else ez w k:=by
  unfold ez
  rw [List.range_succ,List.filter_append,List.map_append]
  split
  · rename_i h
    congr 1
    simp [h]
  · rename_i h
    simp [h]
theorem DK {w:AWorld} (h:w.sv.length=3):ez w 3=bw w:=by
  have:w.sv=[w.s 0,w.s 1,w.s 2]:=by
    unfold AWorld.s
    generalize w.sv=l at h ⊢
    rcases l with _ | ⟨a,_ | ⟨b,_ | ⟨c,_ | ⟨d,l⟩⟩⟩⟩<;>first | rfl | (simp at h)
  unfold bw
  rw [this]
  rw [eW,eW,eW]
  generalize w.s 0=a
  generalize w.s 1=b
  generalize w.s 2=c
  have h0:ez w 0=[]:=rfl
  rw [h0]
  cases ha:a.up<;>cases hb:b.up<;>cases hc:c.up<;>simp [ha,hb,hc]
theorem mQ (w:AWorld):∀ k,(ez w k).length≤k
  | 0=>Nat.le_refl _
  | k+1=>by
    have:=mQ w k
    rw [eW]
    split
    · rw [List.length_append,List.length_singleton];omega
    · omega
theorem Ba {w:AWorld} {k:Nat} {p:APeer} (h:p∈ez w k):∃ i,i < k∧p=(w.s i).peer:=by
  unfold ez at h
  obtain ⟨i,hi,e⟩:=List.mem_map.1 h
  exact ⟨i,List.mem_range.1 (List.mem_filter.1 hi).1,e.symm⟩
structure ElOk (w:AWorld):Prop where
  l:WL w
  s:∀ i,i < 3→GS (w.s i)
  n:∀ i,i < 3→(w.s i).peer.log.length≤100000
  v:∀ i,i < 3→(w.s i).watches.length≤400
  c:∀ i,i < 16→(w.c i).cache.length≤100000∧aU ((w.c i).cache.map AEntry.path)
  d:w.done.length≤100000
theorem pE {k:Nat} (h:k < 3):([0,1,2]:List Nat).drop k=k::([0,1,2]:List Nat).drop (k+1):=by
  rcases k with _ | _ | _ | k<;>first | rfl | omega
structure ElInv (w:AWorld) (L:List ATxn) (ep:Int) (F:AWorld×List ANote×Int) (v:Nat×AWorld×List ANote):Prop where
  k:v.1≤3
  f:bG L ep (([0,1,2]:List Nat).drop v.1) v.2.1 v.2.2=F
  l:WL v.2.1
  s:∀ i,v.1≤i→i < 3→v.2.1.s i=w.s i
  d:v.2.1.done=w.done
  n:v.2.2.length≤400*v.1
  c:v.2.1.cl=w.cl
theorem ElInv.down {w:AWorld} {L:List ATxn} {ep:Int} {F:AWorld×List ANote×Int} {v:Nat×AWorld×List ANote} (h:ElInv w L ep F v) (hk:v.1 < 3) (hu:(w.s v.1).up=false):ElInv w L ep F (v.1+1,v.2):=by
  obtain ⟨h1,h2,h3,h4,h5,h6,h7⟩:=h
  have hs:=h4 v.1 (Nat.le_refl _) hk
  rw [pE hk,bG,hs,if_pos hu] at h2
  exact ⟨hk,h2,h3,fun i a b=>h4 i (by simp only at a;omega) b,h5,by simp only;omega,h7⟩
theorem ElInv.stop1 {w:AWorld} {L:List ATxn} {ep:Int} {F:AWorld×List ANote×Int} {v:Nat×AWorld×List ANote} (h:ElInv w L ep F v) (hk:v.1 < 3) (hu:¬ (w.s v.1).up=false) (hf:(aH (w.s v.1) L ep).2≠0):F=(v.2.1,v.2.2,(aH (w.s v.1) L ep).2):=by
  have h2:=h.f
  have hs:=h.s v.1 (Nat.le_refl _) hk
  rw [pE hk,bG,hs,if_neg hu,if_pos hf] at h2
  exact h2.symm
theorem ElInv.stop2 {w:AWorld} {L:List ATxn} {ep:Int} {F:AWorld×List ANote×Int} {v:Nat×AWorld×List ANote} (h:ElInv w L ep F v) (hk:v.1 < 3) (hu:¬ (w.s v.1).up=false) (hf:¬ (aH (w.s v.1) L ep).2≠0)
    (hc:(aB (aH (w.s v.1) L ep).1 L.length).2.2≠0):F=(v.2.1,v.2.2,(aB (aH (w.s v.1) L ep).1 L.length).2.2):=by
  have h2:=h.f
  have hs:=h.s v.1 (Nat.le_refl _) hk
  rw [pE hk,bG,hs,if_neg hu,if_neg hf,if_pos hc] at h2
  exact h2.symm
theorem ElInv.next {w:AWorld} {L:List ATxn} {ep:Int} {F:AWorld×List ANote×Int} {v:Nat×AWorld×List ANote} (h:ElInv w L ep F v) (hk:v.1 < 3) (hu:¬ (w.s v.1).up=false) (hf:¬ (aH (w.s v.1) L ep).2≠0)
    (hc:¬ (aB (aH (w.s v.1) L ep).1 L.length).2.2≠0) (hw:(w.s v.1).watches.length≤400) :
    ElInv w L ep F (v.1+1,(v.2.1.setS v.1 (aB (aH (w.s v.1) L ep).1 L.length).1).setF v.1 true,v.2.2++(aB (aH (w.s v.1) L ep).1 L.length).2.1):=by
  obtain ⟨h1,h2,⟨e1,e2,e3⟩,h4,h5,h6,h7⟩:=h
  have hs:=h4 v.1 (Nat.le_refl _) hk
  rw [pE hk,bG,hs,if_neg hu,if_neg hf,if_neg hc] at h2
  have hn:=kb (aH (w.s v.1) L ep).1 L.length
  have hn2:=(m7 (w.s v.1) L ep).length_le
  refine ⟨hk,h2,⟨?_,?_,e3⟩,fun i a b=>?_,h5,?_,h7⟩
  · show (v.2.1.sv.set _ _).length=3;rw [List.length_set];exact e1
  · show (v.2.1.fl.set _ _).length=3;rw [List.length_set];exact e2
  · simp only at a
    show (v.2.1.setS v.1 _).s i=w.s i
    rw [dN (by omega),if_neg (by omega)]
    exact h4 i (by omega) b
  · simp only [List.length_append];omega
theorem ElInv.end {w:AWorld} {L:List ATxn} {ep:Int} {F:AWorld×List ANote×Int} {v:Nat×AWorld×List ANote} (h:ElInv w L ep F v) (hk:¬ v.1 < 3):F=(v.2.1,v.2.2,0):=by
  have h2:=h.f
  have hk3:v.1=3:=by have:=h.k;omega
  rw [hk3] at h2
  exact h2.symm
theorem B0 {w:AWorld} (h:w.cl.length=16) (ns:List ANote):(cw w).told ns 16=cw (ew w ns):=by
  have:(fun j=>if j < 16 then kf ns (w.c j) else w.c j)=(ew w ns).c:=funext fun j=>by
    by_cases hj:j < 16
    · rw [if_pos hj,vL (by omega)];rfl
    · rw [if_neg hj]
      unfold AWorld.c ew
      simp only
      rw [List.getD_eq_getElem?_getD,List.getD_eq_getElem?_getD,List.getElem?_eq_none (by omega),List.getElem?_eq_none (by simp;omega)]
  show (CW.mk w.s (fun j=>if j < 16 then kf ns (w.c j) else w.c j) w.leader w.f w.done.length w.deeds)=_
  rw [this];rfl
set_option maxHeartbeats 16000000 in
theorem Fa (w:AWorld) (hw:ElOk w):ab Tryz.prog (inW w) 57 [.ptr 0 0] (cE (dw w).1 (dw w).2):=by
  obtain ⟨⟨e1,e2,e3⟩,hs,hn,hv4,hc16,hd⟩:=hw
  unfold dw
  rw [←DK e1]
  unfold inW cE
  refine zJ Tryz.func57 Tryz.ntmps57 Tryz.results57 ?_;simp only [go_sem]
  (refine zW qw zn trivial (z1 ?_)<;>(repeat with_reducible intro hc))
  refine AWP.weaken (aF.nilOwn 3 4 rfl) ?_
  simp only [go_sem]
  refine AWP.loopB (ι:=Nat) (fun k=>k≤3) (fun k=>3 - k) [0,2,19] (fun k=>[(20,I k),(3,.osl 3 4 0 (ez w k).length)]) (fun k=>[.cells (wC (cw w) 1),.rows 7 (w.done.map ATxn.row),.cells [I 0,I 0,S [],S [],I 0,I 0,I 0,I 0,I 0,I 0,I 0,.d (.sc (.slice none 0 0))],.rows 4 ((ez w k).map APeer.row)]) 0 ?_ ?_ ?_
  · omega
  · simp only [go_sem,show ez w 0=[] from rfl];exact zSm trivial
  intro k hk
  simp only [go_sem]
  by_cases hk3:k < 3
  · have hpl:=mQ w k
    (refine zW qw zn trivial (z2 ?_ ?_)<;>(repeat with_reducible intro hc))
    all_goals (try (exfalso;omega))
    · refine ⟨k+1,by omega,by omega,?_⟩
      rw [eW,if_pos hc]
      exact zFr [0,1,2,6] (zx @List.map_append.{0,0} (zx @List.map_cons.{0,0} (zx @List.map_nil.{0,0} (zx @APeer.row.eq_1 (zx @List.length_append.{0} (zx @List.length_cons.{0} @List.length_nil.{0}))))))
    · refine ⟨k+1,by omega,by omega,?_⟩
      rw [eW,if_neg (by rw [hc];decide)]
      exact zFr [0,1,2,3] trivial
  have e:k=3:=by omega
  subst e
  have hPl:=mQ w 3
  have hPm:=fun p hp=>@Ba w 3 p hp
  have hPg:∀ p,p∈ez w 3→p.log.length≤100000∧∀ x,x∈p.log→x.wf∧x.path.length≤1048576:=fun p hp=>by
    obtain ⟨i,hi,rfl⟩:=hPm p hp
    exact ⟨hn i hi,fun x hx=>⟨(hs i hi).w.2.2.1.2.2.1.2 x hx,(hs i hi).p x hx⟩⟩
  have hel:=Jw (ez w 3) (by omega) (fun p hp=>by have:=(hPg p hp).1;omega)
  have hok:=@CI (ez w 3)
  generalize ez w 3=P at hPl hPm hPg hel hok ⊢
  generalize cd P=q at hel hok ⊢
  obtain ⟨q1,ep,q3⟩:=q
  simp only [rZ] at hel hok ⊢
  by_cases hq:q3=0
  case neg=>
    simp only [ne_eq,hq,not_false_eq_true,if_true]
    (refine zW qw (z1 hel) trivial (z1 ?_)<;>(repeat with_reducible intro hc))
    all_goals first | (exfalso;omega) | skip
    (refine zO ?_ ?_;(focus ((try simp (disch:=omega) only [go_sem,aa])<;>fail));simp (disch:=omega) only [go_sem,aa];exact ag.worldV (r:=noR q3) (rfl) rfl rfl rfl)
  subst hq
  obtain ⟨b,hb,hbl,hep⟩:=hok rfl
  subst hb
  simp only [ne_eq,not_true_eq_false,if_false,Int.toNat_natCast]
  obtain ⟨hL1,hL2⟩:=hPg _ (bW P b hbl)
  have hrow:=fun z=>APeer.rgetD P b z hbl
  generalize P.getD b default=B at hL1 hL2 hrow ⊢
  generalize hF:bG B.log ep [0,1,2] w.resign []=F
  (refine zW qw (z2 (ic Tryz.func108) hel) (zx @hrow @pz) (z1 ?_)<;>(repeat with_reducible intro hc))
  refine AWP.weaken (aF.nilOwn 10 3 rfl) ?_
  simp only [go_sem]
  refine AWP.loopB (ι:=Nat×AWorld×List ANote) (fun v=>ElInv w B.log ep F v) (fun v=>3 - v.1) [0,2,3,6,7,9] (fun v=>[(48,I v.1),(10,.osl 4 3 0 v.2.2.length)]) (fun v=>[.cells (wC (cw v.2.1) 1),.rows 7 (w.done.map ATxn.row),.cells [I 0,I 0,S [],S [],I 0,I 0,I 0,I 0,I 0,I 0,I 0,.d (.sc (.slice none 0 0))],.rows 4 (P.map APeer.row),.rows 3 (v.2.2.map ANote.row)]) (0,w.resign,[]) ?_ ?_ ?_
  · exact ⟨Nat.zero_le _,hF,⟨e1,rfl,e3⟩,fun i _ _=>rfl,rfl,Nat.le_refl _,rfl⟩
  · simp only [go_sem];exact zFr [0,1,2,3,4] trivial
  intro v hv
  simp only [go_sem]
  have hvk:=hv.k
  have hvn:=hv.n
  by_cases hk4:v.1 < 3
  · have hs0:=hv.s v.1 (Nat.le_refl _) hk4
    have hg:=hs v.1 hk4
    have hw4:=hv4 v.1 hk4
    have hL1':B.log.length≤1048576:=by omega
    have hfo:=Fi (w.s v.1) B.log ep hg.w (fun x hx=>(hL2 x hx).1) hL1' hep
    have hfg:=DP (ep:=ep) hg hL2 hL1' hep
    have hco:=wO (aH (w.s v.1) B.log ep).1 B.log.length hfg.w hfg.t hfg.p
    have hdn:=hv.down hk4
    have hst1:=hv.stop1 hk4
    have hst2:=hv.stop2 hk4
    have hnx:=fun a b c=>hv.next hk4 a b c hw4
    have hcf:=kb (aH (w.s v.1) B.log ep).1 B.log.length
    have hff:=(m7 (w.s v.1) B.log ep).length_le
    by_cases hu:(w.s v.1).up=false
    · (repeat' first
    | (with_reducible refine AR.f ?_)
    | refine ap (by decide) ?_
    | (with_reducible refine AWP.cond rfl ?_ ?_<;>intro hc<;>(try simp only [hcs,beq_iff_eq,ge_iff_le,gt_iff_lt] at hc))
    | ((first | ((first | (with_reducible first | refine zR ?_ | refine zQ (by decide +kernel) ?_ | refine zD (by decide +kernel) ?_ | refine zE (by decide +kernel) ?_ | refine zG (by decide +kernel) ?_));intro K hK) | ((first | (with_reducible refine aunder_i ?_ ?_<;>intro hg) | with_reducible intro hg)<;>(first | (exfalso;simp at hg;done) | (have hg':=hg;(try simp only [hcs,beq_iff_eq,ge_iff_le,gt_iff_lt] at hg');(try simp only [hg])))))<;>(try simp (disch:=omega) only [go_sem,aa,hs0])<;>(repeat' with_reducible refine And.intro ?_ ?_)<;>(try (with_reducible refine hK _ ?_;clear hK K)))
    | omega)
      all_goals first | (exfalso;omega) | (exfalso;simp_all;done) | skip
      refine ⟨(v.1+1,v.2),hdn hu,by simp only;omega,?_⟩
      exact zFr [0,1,2,3,4] trivial
    generalize aH (w.s v.1) B.log ep=fo at hfo hfg hco hst1 hst2 hnx hcf hff
    obtain ⟨f1,f2⟩:=fo
    simp only at hfo hfg hco hst1 hst2 hnx hcf hff
    by_cases hf2:f2=0
    case neg=>
      have hF2:=hst1 hu hf2
      subst hF2
      simp only [ne_eq,hf2,not_false_eq_true,if_true]
      (refine zW qw (z1 hfo) @hs0 (z2 ?_ ?_)<;>(repeat with_reducible intro hc))
      all_goals first | (exfalso;omega) | (exfalso;simp_all;done) | skip
      (refine zO ?_ ?_;(focus ((try simp (disch:=omega) only [go_sem,aa,true_and])<;>fail));simp (disch:=omega) only [go_sem,aa,true_and];exact ag.worldV (r:=noR f2) (rfl) rfl rfl (by rw [hv.d];rfl))
    subst hf2
    generalize aB f1 B.log.length=co at hco hst2 hnx hcf
    obtain ⟨c1,cn,ce⟩:=co
    simp only at hco hst2 hnx hcf
    by_cases hce:ce=0
    case neg=>
      have hF2:=hst2 hu (fun h=>h rfl) hce
      subst hF2
      simp only [ne_eq,hce,not_false_eq_true,if_true]
      (refine zW qw (z2 hfo hco) @hs0 (z2 ?_ ?_)<;>(repeat with_reducible intro hc))
      all_goals first | (exfalso;omega) | (exfalso;simp_all;done) | skip
      (refine zO ?_ ?_;(focus ((try simp (disch:=omega) only [go_sem,aa,true_and])<;>fail));simp (disch:=omega) only [go_sem,aa,true_and];exact ag.worldV (r:=noR ce) (rfl) rfl rfl (by rw [hv.d];rfl))
    subst hce
    (refine zW qw (z2 hfo hco) @hs0 (z2 ?_ ?_)<;>(repeat with_reducible intro hc))
    all_goals first | (exfalso;omega) | (exfalso;simp_all;done) | skip
    refine ⟨_,hnx hu (fun h=>h rfl) (fun h=>h rfl),by simp only;omega,?_⟩
    have k1:=Kj hv.l.sl hk4
    have k2:=Nk hv.l.fl hk4
    exact zFr [0,1,2,3,6] (zx @List.map_append.{0,0} (zx @List.length_append.{0} (zx @k1 @k2)))
  have hF2:=hv.end hk4
  subst hF2
  simp only [ne_eq,not_true_eq_false,if_false]
  have hla:=last_c B.log (by omega)
  have htl:=Cj ((cw v.2.1).setL B.id) (w.done.map ATxn.row) v.2.2 (fun i hi=>by have:=hc16 i hi;show (v.2.1.cl.getD i default).cache.length≤_∧aU ((v.2.1.cl.getD i default).cache.map _);rw [hv.c];exact this) (by omega)
  (refine zW qw (z2 (ac [0,1,4] htl) hla) @hrow (z1 ?_)<;>(repeat with_reducible intro hc))
  all_goals first | (exfalso;omega) | skip
  refine zO ?_ ?_
  · simp (disch:=omega) only [go_sem,aa]
  simp (disch:=omega) only [go_sem,aa]
  exact ag.worldM 1 4 (r:=⟨0,ax B.log,[],[],default,v.2.2⟩) (B0 (w:={ v.2.1 with leader:=B.id }) hv.l.cl v.2.2) rfl (by rw [show (ew { v.2.1 with leader:=B.id } v.2.2).done=w.done from hv.d];rfl) (by decide) rfl (by decide)
theorem Ea:Pls [Plan.takes [0,1,2,3,4,6,7,8,9,10,11,12] (.forks 5 (.fork 13 (Plan.takes [14] (.fork 15 (Plan.takes [16,17,18,19,20,21,22,23] .done) 20 (Plan.takes [15,16,17,18,19,21,22,23] .done))) 20 (Plan.takes [13,14,15,16,17,18,19,21,22,23] .done)) 13 (Plan.takes [14] (.fork 5 (.fork 15 (Plan.takes [16,17,18,19,20,21,22,23] .done) 20 (Plan.takes [15,16,17,18,19,21,22,23] .done)) 20 (Plan.takes [5,15,16,17,18,19,21,22,23] .done))) 20 (Plan.takes [5,13,14,15,16,17,18,19,21,22,23] .done)),Plan.takes [0,1,2,3,4,5,6] .done,Plan.takes [0,1,2,3,5] (.fork 4 (Plan.takes [6,7,8,9,10] .done) 6 (Plan.takes [4,7,8,9,10] .done)),Plan.takes [0,1,2,3,4,6] (.forks 5 (.fork 7 (.fork 8 (Plan.takes [9,10,11,12,13,14] .done) 12 (Plan.takes [8,9,10,11,13,14] .done)) 12 (Plan.takes [7,8,9,10,11,13,14] .done)) 7 (.fork 5 (.fork 8 (Plan.takes [9,10,11,12,13,14] .done) 12 (Plan.takes [8,9,10,11,13,14] .done)) 12 (Plan.takes [5,8,9,10,11,13,14] .done)) 12 (Plan.takes [5,7,8,9,10,11,13,14] .done)),Plan.takes [0,1,2,3,4,5,6] .done,Plan.takes [0,1,2,3,5,6,10] (.forks 4 (Plan.takes [7,8] (.forks 9 (.fork 11 (.fork 12 (Plan.takes [13,14,15,16,17,18] .done) 16 (Plan.takes [12,13,14,15,17,18] .done)) 16 (Plan.takes [11,12,13,14,15,17,18] .done)) 11 (.fork 9 (.fork 12 (Plan.takes [13,14,15,16,17,18] .done) 16 (Plan.takes [12,13,14,15,17,18] .done)) 16 (Plan.takes [9,12,13,14,15,17,18] .done)) 16 (Plan.takes [9,11,12,13,14,15,17,18] .done))) 11 (.fork 4 (Plan.takes [7,8] (.fork 9 (.fork 12 (Plan.takes [13,14,15,16,17,18] .done) 16 (Plan.takes [12,13,14,15,17,18] .done)) 16 (Plan.takes [9,12,13,14,15,17,18] .done))) 16 (Plan.takes [4,7,8,9,12,13,14,15,17,18] .done)) 16 (Plan.takes [4,7,8,9,11,12,13,14,15,17,18] .done))]:=pls _
structure SG (s:AServer):Prop where
  gs:GS s
  g:aK s.tree=true
  v:s.watches.length≤400
theorem w8:∀ (X:List ATxn) (p:CSt),okT p.t→aK p.t=true→(∀ x,x∈X→x.wf∧x.path.length≤1048576)→okT (jt X p).1.t∧aK (jt X p).1.t=true
  | [],p,h,hg,_=>⟨h,hg⟩
  | x :: X,p,h,hg,hX=>by
    by_cases he:(ar p.t x).2.2=0
    · rw [oK he]
      obtain ⟨x1,x2⟩:=hX x (List.mem_cons_self ..)
      exact w8 X (ko (ar p.t x) p x) (xd h x1 x2) (rk he) fun y hy=>hX y (List.mem_cons_of_mem _ hy)
    · rw [uj he];exact ⟨h,hg⟩
theorem DI {s:AServer} {n:Int} (h:SG s) (hn:okI n) (h0:(aB s n).2.2=0):SG (aB s n).1:=by
  have hsub:=commit_sub s n
  have hX:∀ x,x∈(s.peer.log.drop s.peer.done.toNat).take (n.toNat - s.peer.done.toNat)→x.wf∧x.path.length≤1048576:=fun x hm=>by
    have hm2:=List.mem_of_mem_drop (List.mem_of_mem_take hm)
    exact ⟨h.gs.w.2.2.1.2.2.1.2 x hm2,h.gs.p x hm2⟩
  obtain ⟨a,b⟩:=w8 _ ⟨s.tree,s.watches,[]⟩ h.gs.t h.g hX
  unfold aB at h0 hsub ⊢
  split at h0
  · exact absurd h0 (by decide)
  rename_i hb
  rw [if_neg hb] at hsub ⊢
  simp only at h0 hsub ⊢
  split at h0
  · rename_i hq
    rw [if_pos hq] at hsub ⊢
    simp only at hsub ⊢
    obtain ⟨_,h1,h2,h3,h4⟩:=h.gs.w
    refine ⟨⟨⟨trivial,h1,⟨h2.1,h2.2.1,h2.2.2.1,hn⟩,a.1,⟨?_,fun y hy=>h4.2 y (hsub.subset hy)⟩⟩,a,h.gs.p⟩,b,Nat.le_trans hsub.length_le h.v⟩
    exact Nat.le_trans (Nat.mul_le_mul_right 32 hsub.length_le) h4.1
  · exact absurd h0 (by assumption)
theorem KU {s:AServer} {x:ATxn} {safe:Bool} (h:SG s) (hx:x.wf) (hp:x.path.length≤1048576) (hl:s.peer.log.length≤1048576) (h0:(bi s x safe).2=0):SG (bi s x safe).1:=by
  have hg:=BV (safe:=safe) h.gs hx hp hl
  have hs:=take_sub s x safe
  refine ⟨hg,?_,Nat.le_trans hs.length_le h.v⟩
  unfold bi at h0 ⊢
  split at h0
  · exact absurd h0 (by decide)
  rename_i h1
  rw [if_neg h1]
  split at h0
  · rename_i h2
    rw [if_pos h2];exact h.g
  · exact absurd h0 (by assumption)
structure CmInv (w:AWorld) (hv:List Nat) (F:AWorld×List ANote×Int) (v:Nat×AWorld×List ANote):Prop where
  k:v.1≤hv.length
  f:bn (hv.drop v.1) v.2.1 v.2.2=F
  l:WL v.2.1
  s:∀ i,i < 3→SG (v.2.1.s i)
  d:v.2.1.done=w.done
  n:v.2.2.length≤400*v.1
  c:v.2.1.cl=w.cl
  ld:v.2.1.leader=w.leader
theorem sJ (l:List Nat) (k:Nat) (h:k < l.length):l.drop k=l.getD k default::l.drop (k+1):=by
  rw [List.drop_eq_getElem_cons h,List.getD_eq_getElem?_getD,List.getElem?_eq_getElem h];rfl
theorem CmInv.stop {w:AWorld} {hv:List Nat} {F:AWorld×List ANote×Int} {v:Nat×AWorld×List ANote} (h:CmInv w hv F v) (hk:v.1 < hv.length) {j:Nat} (hj:hv.getD v.1 default=j) (hc:(aB (v.2.1.s j) (v.2.1.s j).peer.log.length).2.2≠0) :
    F=(v.2.1,v.2.2,(aB (v.2.1.s j) (v.2.1.s j).peer.log.length).2.2):=by
  have h2:=h.f
  rw [sJ hv v.1 hk,hj,bn,if_pos hc] at h2
  exact h2.symm
theorem CmInv.next {w:AWorld} {hv:List Nat} {F:AWorld×List ANote×Int} {v:Nat×AWorld×List ANote} (h:CmInv w hv F v) (hk:v.1 < hv.length) {j:Nat} (hj:hv.getD v.1 default=j) (hj3:j < 3) (hc:¬ (aB (v.2.1.s j) (v.2.1.s j).peer.log.length).2.2≠0) :
    CmInv w hv F (v.1+1,v.2.1.setS j (aB (v.2.1.s j) (v.2.1.s j).peer.log.length).1,v.2.2++(aB (v.2.1.s j) (v.2.1.s j).peer.log.length).2.1):=by
  obtain ⟨h1,h2,⟨e1,e2,e3⟩,h4,h5,h6,h7,h8⟩:=h
  rw [sJ hv v.1 hk,hj,bn,if_neg hc] at h2
  have hs:=h4 j hj3
  have hn:=kb (v.2.1.s j) (v.2.1.s j).peer.log.length
  have hl:=hs.gs.w.2.2.1.2.2.1.1
  have hg:=DI hs (n:=((v.2.1.s j).peer.log.length:Int)) (by constructor<;>omega) (Classical.not_not.1 hc)
  have hv4:=hs.v
  refine ⟨hk,h2,⟨?_,e2,e3⟩,fun i hi=>?_,h5,?_,h7,h8⟩
  · show (v.2.1.sv.set _ _).length=3;rw [List.length_set];exact e1
  · show SG ((v.2.1.setS j _).s i)
    rw [dN (by omega)]
    split
    · exact hg
    · exact h4 i hi
  · simp only [List.length_append];omega
theorem CmInv.end {w:AWorld} {hv:List Nat} {F:AWorld×List ANote×Int} {v:Nat×AWorld×List ANote} (h:CmInv w hv F v) (hk:¬ v.1 < hv.length):F=(v.2.1,v.2.2,0):=by
  have h2:=h.f
  rw [List.drop_of_length_le (by omega)] at h2
  exact h2.symm
def oo (i:Nat):List DV:=[.int .i64 (i:Int)]
theorem IT (w:AWorld) (x:ATxn):(cw w).setN (w.done.length+1)=cw { w with done:=w.done++[x] }:=by
  unfold cw CW.setN
  simp only [List.length_append,List.length_singleton]
  rfl
structure CmOk (w:AWorld) (who:Nat) (x:ATxn) (hv:List Nat):Prop where
  l:WL w
  s:∀ i,i < 3→SG (w.s i)
  c:∀ i,i < 16→(w.c i).cache.length≤100000∧aU ((w.c i).cache.map AEntry.path)
  d:w.done.length≤100000
  ld:0≤w.leader∧w.leader < 3
  h:hv.length≤3∧∀ i,i∈hv→i < 3
  wh:who < 16
  sn:(w.c who).seen≤x.zxid
  x:x.wf
set_option maxHeartbeats 16000000 in
theorem DQ (w:AWorld) (who:Nat) (x:ATxn) (hv:List Nat) (hw:CmOk w who x hv) (wi:Int) (hwi:wi=(who:Int)):ab Tryz.prog (inW w) 109 [.ptr 0 0,I wi,x.av,.d (.sl 1 (hv.map oo))] (cE (js w who x hv).1 (js w who x hv).2):=by
  subst hwi
  obtain ⟨⟨e1,e2,e3⟩,hs,hc16,hd,⟨hl0,hl3⟩,⟨hh3,hhm⟩,hwho,hsn,hxw⟩:=hw
  unfold js
  generalize hF:bn hv w []=F
  unfold inW cE
  refine zJ Tryz.func109 Tryz.ntmps109 Tryz.results109 ?_;simp only [go_sem]
  (refine zW qw zn trivial (z1 ?_)<;>(repeat with_reducible intro hc))
  refine AWP.weaken (aF.nilOwn 9 3 rfl) ?_
  simp only [go_sem]
  refine AWP.loopB (ι:=Nat×AWorld×List ANote) (fun v=>CmInv w hv F v) (fun v=>hv.length - v.1) [0,1,6,8,19,20] (fun v=>[(21,I v.1),(9,.osl 4 3 0 v.2.2.length)]) (fun v=>[.cells (wC (cw v.2.1) 1),.rows 7 (w.done.map ATxn.row),.cells [I x.zxid,I x.op,I x.session,S x.path,S x.data,I x.version,I x.owner],.cells [I 0,I 0,S [],S [],I 0,I 0,I 0,I 0,I 0,I 0,I 0,.d (.sc (.slice none 0 0))],.rows 3 (v.2.2.map ANote.row)]) (0,w,[]) ?_ ?_ ?_
  · exact ⟨Nat.zero_le _,hF,⟨e1,e2,e3⟩,hs,rfl,Nat.le_refl _,rfl,rfl⟩
  · simp only [go_sem];exact zFr [0,1,2,3,4] trivial
  intro v hi
  simp only [go_sem]
  have hvk:=hi.k
  have hvn:=hi.n
  by_cases hk4:v.1 < hv.length
  · have hrow:∀ z,List.getD (hv.map oo) v.1 z=oo (hv.getD v.1 default):=fun z=>dW oo hv v.1 z hk4
    have hj3:=hhm _ (bW hv v.1 hk4)
    have hst:=@CmInv.stop _ _ _ _ hi hk4
    have hnx:=@CmInv.next _ _ _ _ hi hk4
    generalize hv.getD v.1 default=j at hrow hj3 hst hnx
    have hg:=hi.s j hj3
    have hlj:=hg.gs.w.2.2.1.2.2.1.1
    have hco:=wO (v.2.1.s j) (v.2.1.s j).peer.log.length hg.gs.w hg.gs.t hg.gs.p
    have hst:=@hst j rfl
    have hnx:=@hnx j rfl hj3
    have hcf:=kb (v.2.1.s j) (v.2.1.s j).peer.log.length
    have hg4:=hg.v
    generalize aB (v.2.1.s j) (v.2.1.s j).peer.log.length=co at hco hst hnx hcf
    obtain ⟨c1,cn,ce⟩:=co
    simp only at hco hst hnx hcf
    by_cases hce:ce=0
    case neg=>
      have hF2:=hst hce
      subst hF2
      simp only [ne_eq,hce,not_false_eq_true,if_true]
      (refine zW qw (z2 Ea hco) (zx @hrow @oo.eq_1) (zc ?_ (zc ?_ (zc ?_ (z4 ?_ ?_ ?_ ?_))))<;>(repeat with_reducible intro hc))
      all_goals first | (exfalso;omega) | (exfalso;simp_all;done) | skip
      all_goals (refine zO ?_ ?_;(focus ((try simp (disch:=omega) only [go_sem,aa,true_and])<;>fail));simp (disch:=omega) only [go_sem,aa,true_and];exact ag.worldV (r:=noR ce) (rfl) rfl rfl (by rw [hi.d];rfl))
    subst hce
    have k1:=Kj hi.l.sl hj3
    (refine zW qw (z2 Ea hco) (zx @hrow @oo.eq_1) (zc ?_ (zc ?_ (zc ?_ (z4 ?_ ?_ ?_ ?_))))<;>(repeat with_reducible intro hc))
    all_goals first | (exfalso;omega) | (exfalso;simp_all;done) | skip
    all_goals (refine ⟨_,hnx (fun h=>h rfl),by simp only;omega,?_⟩;exact zFr [0,1,2,3,6] (zx @List.map_append.{0,0} (zx @List.length_append.{0} @k1)))
  have hF2:=hi.end hk4
  subst hF2
  simp only [ne_eq,not_true_eq_false,if_false]
  have hdn:=hi.d
  have htl:=Cj ((cw v.2.1).setN (w.done.length+1)) (w.done.map ATxn.row++[[.int .i64 x.zxid,.int .i64 x.op,.int .i64 x.session,.str x.path,.str x.data,.int .i64 x.version,.int .i64 x.owner]]) v.2.2 (fun i hi2=>by have:=hc16 i hi2;show (v.2.1.cl.getD i default).cache.length≤_∧aU ((v.2.1.cl.getD i default).cache.map _);rw [hi.c];exact this) (by omega)
  have htd:((cw v.2.1).setN (w.done.length+1)).told v.2.2 16=cw (ew { v.2.1 with done:=v.2.1.done++[x] } v.2.2):=by
    rw [show ((cw v.2.1).setN (w.done.length+1))=cw { v.2.1 with done:=v.2.1.done++[x] } from by rw [←hdn];exact IT v.2.1 x]
    exact B0 (w:={ v.2.1 with done:=v.2.1.done++[x] }) hi.l.cl v.2.2
  have hcu:(ew { v.2.1 with done:=v.2.1.done++[x] } v.2.2).c who=kf v.2.2 (w.c who):=by
    rw [vL (by show who < v.2.1.cl.length;rw [hi.c];omega)]
    show kf v.2.2 (v.2.1.cl.getD who default)=kf v.2.2 (w.cl.getD who default)
    rw [hi.c]
  have hud:(ew { v.2.1 with done:=v.2.1.done++[x] } v.2.2).done=w.done++[x]:=by show v.2.1.done++[x]=_;rw [hdn]
  have hul:(ew { v.2.1 with done:=v.2.1.done++[x] } v.2.2).leader=w.leader:=hi.ld
  have hus:∀ i,i < 3→SG ((ew { v.2.1 with done:=v.2.1.done++[x] } v.2.2).s i):=hi.s
  have huc:(ew { v.2.1 with done:=v.2.1.done++[x] } v.2.2).cl.length=16:=by show (v.2.1.cl.map _).length=16;rw [List.length_map,hi.l.cl]
  generalize ew { v.2.1 with done:=v.2.1.done++[x] } v.2.2=u at htd hcu hud hul hus huc ⊢
  have hle:u.leader=((w.leader.toNat:Nat):Int):=by rw [hul];omega
  have hli:w.leader.toNat < 3:=by omega
  have hgl:=hus _ hli
  have hco:=hc16 who hwho
  have hcl:(u.c who).cache.length≤100000:=by
    rw [hcu]
    exact Nat.le_trans (oI _ _ _).length_le hco.1
  have hse:eP (u.c who) x.zxid=(⟨(u.c who).session,x.zxid,(u.c who).cache⟩,0):=by
    unfold eP
    rw [if_neg]
    rw [hcu]
    show ¬ x.zxid < (w.c who).seen
    omega
  have hsc:=K4 (u.c who) x.zxid (by omega)
  rw [hse] at hsc ⊢
  have hgt:=iO (u.s w.leader.toNat).tree x.path hgl.gs.t.1.2.1.1 (aV hgl.g)
  rw [hle]
  simp only [ne_eq,not_true_eq_false,if_false,Int.toNat_natCast]
  generalize aP (u.s w.leader.toNat).tree x.path=gq at hgt ⊢
  obtain ⟨gn,ge⟩:=gq
  simp only at hgt hsc ⊢
  have k3:=Le huc hwho
  have hle2:(u.setC who ⟨(u.c who).session,x.zxid,(u.c who).cache⟩).leader=((w.leader.toNat:Nat):Int):=hle
  have hle3:(u.setC who ⟨(u.c who).session,x.zxid,(u.c who).cache⟩).s=u.s:=rfl
  (refine zW qs zn @hdn (z1 ?_)<;>(repeat with_reducible intro hc))
  all_goals first | (exfalso;omega) | skip
  refine AWP.meetB [0,1,6,8] [(9,.osl 4 3 0 v.2.2.length)] [.cells (wC ((cw v.2.1).setN (w.done.length+1)) 5),.dead,.cells [I x.zxid,I x.op,I x.session,S x.path,S x.data,I x.version,I x.owner],.cells [I 0,I 0,S [],S [],I 0,I 0,I 0,I 0,I 0,I 0,I 0,.d (.sc (.slice none 0 0))],.rows 3 (v.2.2.map ANote.row),.rows 7 (w.done.map ATxn.row++[[.int .i64 x.zxid,.int .i64 x.op,.int .i64 x.session,.str x.path,.str x.data,.int .i64 x.version,.int .i64 x.owner]])] ?_ ?_
  · (refine zW qw (z1 Ea) @hdn (z2 ?_ ?_)<;>(repeat with_reducible intro hc))
    all_goals first | (exfalso;omega) | skip
    all_goals exact zFr [0,1,2,3,4,6] trivial
  simp only [go_sem]
  (refine zW qs (z1 (ac [0,5,4] htl)) @htd (z1 ?_)<;>(repeat with_reducible intro hc))
  refine AWP.meetB [0,1,6,8] [(9,.osl 4 3 0 v.2.2.length),(15,.ptr 6 0),(16,I 0)] [.cells (wC (cw u) 5),.dead,.cells [I x.zxid,I x.op,I x.session,S x.path,S x.data,I x.version,I x.owner],.cells [I 0,I 0,S [],S [],I 0,I 0,I 0,I 0,I 0,I 0,I 0,.d (.sc (.slice none 0 0))],.rows 3 (v.2.2.map ANote.row),.rows 7 (w.done.map ATxn.row++[[.int .i64 x.zxid,.int .i64 x.op,.int .i64 x.session,.str x.path,.str x.data,.int .i64 x.version,.int .i64 x.owner]]),.cells [I (u.c who).session,I x.zxid,.d (.sl 3 ((u.c who).cache.map AEntry.row))]] ?_ ?_
  · (refine zW qw (z2 Ea hsc) trivial (zc ?_ (zc ?_ (zc ?_ (z4 ?_ ?_ ?_ ?_))))<;>(repeat with_reducible intro hc))
    all_goals first | (exfalso;omega) | skip
    all_goals exact zFr [0,1,2,3,4,5,6] trivial
  simp only [go_sem]
  (refine zW qs zn trivial (z1 ?_)<;>(repeat with_reducible intro hc))
  all_goals first | (exfalso;omega) | skip
  refine AWP.meetB [0,1,6,8] [(9,.osl 4 3 0 v.2.2.length)] [.cells (wC (cw (u.setC who ⟨(u.c who).session,x.zxid,(u.c who).cache⟩)) 5),.dead,.cells [I x.zxid,I x.op,I x.session,S x.path,S x.data,I x.version,I x.owner],.cells [I 0,I 0,S [],S [],I 0,I 0,I 0,I 0,I 0,I 0,I 0,.d (.sc (.slice none 0 0))],.rows 3 (v.2.2.map ANote.row),.rows 7 (w.done.map ATxn.row++[[.int .i64 x.zxid,.int .i64 x.op,.int .i64 x.session,.str x.path,.str x.data,.int .i64 x.version,.int .i64 x.owner]])] ?_ ?_
  · (refine zW qw (z1 Ea) trivial (z1 ?_)<;>(repeat with_reducible intro hc))
    all_goals first | (exfalso;omega) | skip
    all_goals exact zFr [0,1,2,3,4,5] @k3
  simp only [go_sem]
  (refine zW qs zn trivial (z1 ?_)<;>(repeat with_reducible intro hc))
  refine AWP.meetB [0,1,6,8] [(9,.osl 4 3 0 v.2.2.length),(17,.ptr 6 0)] [.cells (wC (cw (u.setC who ⟨(u.c who).session,x.zxid,(u.c who).cache⟩)) 5),.dead,.cells [I x.zxid,I x.op,I x.session,S x.path,S x.data,I x.version,I x.owner],.cells [I 0,I 0,S [],S [],I 0,I 0,I 0,I 0,I 0,I 0,I 0,.d (.sc (.slice none 0 0))],.rows 3 (v.2.2.map ANote.row),.rows 7 (w.done.map ATxn.row++[[.int .i64 x.zxid,.int .i64 x.op,.int .i64 x.session,.str x.path,.str x.data,.int .i64 x.version,.int .i64 x.owner]]),.cells [S gn.path,S gn.data,I gn.stat.czxid,I gn.stat.mzxid,I gn.stat.pzxid,I gn.stat.version,I gn.stat.cversion,I gn.stat.owner,I gn.stat.kids]] ?_ ?_
  · (refine zW qw (z2 Ea hgt) (zx @hle2 @hle3) (zc ?_ (zc ?_ (zc ?_ (zc ?_ (zc ?_ (zc ?_ (zc ?_ (zc ?_ (z4 ?_ ?_ ?_ ?_)))))))))<;>(repeat with_reducible intro hc))
    all_goals first | (exfalso;omega) | skip
    all_goals exact zFr [0,1,2,3,4,5,6] @k3
  simp only [go_sem]
  (refine zW qw zn trivial (z1 ?_)<;>(repeat with_reducible intro hc))
  refine zO ?_ ?_
  · simp (disch:=omega) only [go_sem,aa]
  simp (disch:=omega) only [go_sem,aa]
  exact ag.worldM 5 4 (r:=⟨0,x.zxid,x.path,[],gn.stat,v.2.2⟩) rfl rfl (by rw [show (u.setC who ⟨(u.c who).session,x.zxid,(u.c who).cache⟩).done=w.done++[x] from hud,List.map_append];rfl) (by decide) rfl (by decide)
end Go.Proofs.YtjcooccnfkfjhaaGreatDoor
