/- A part of what Mem leans on: texts of this claim, one behind the other. No condition. -/
import Derived.Lib.AppendZerosOnto
import Derived.Test.YtjcooccnfkfjhaaGreatDoorMemK1
namespace Go.Proofs.YtjcooccnfkfjhaaGreatDoor
set_option linter.unusedVariables false
set_option linter.unusedSimpArgs false
open Go Go.RowKit
structure HStep (E:Ent) (ρ:List (Option (Nat×Nat))) (hp:List ABlk) (w:World) (ρ':List (Option (Nat×Nat))) (hp':List ABlk) (w':World):Prop where
 heap:RepH E ρ' hp' w'
 up:∀ (k:Nat) (p:Option (Nat×Nat)),ρ[k]?=some p→ρ'[k]?=some p
 ok:∀ b,okB E ρ hp w b→okB E ρ' hp' w' b∧w'.heap[b]?=w.heap[b]?
section
variable {E:Ent} {ρ ρ' ρ2:List (Option (Nat×Nat))} {hp hp' hp2:List ABlk} {w w' w2:World}
theorem HStep.trans (h:HStep E ρ hp w ρ' hp' w') (h2:HStep E ρ' hp' w' ρ2 hp2 w2):HStep E ρ hp w ρ2 hp2 w2:=
 ⟨h2.heap,fun k p hk=>h2.up k p (h.up k p hk),fun b hb=>⟨(h2.ok b (h.ok b hb).1).1,(h2.ok b (h.ok b hb).1).2.trans (h.ok b hb).2⟩⟩
theorem HStep.below (h:RepH E ρ hp w) (hb:Below w.heap.size w w'):HStep E ρ hp w ρ hp w':=⟨h.below hb,fun _ _ hk=>hk,eR hb⟩
theorem Rep.step {s:ASt} {a:Act} (h:Rep E s ρ a w) (hs:HStep E ρ s.hp w ρ' hp' w'):Rep E { s with hp:=hp' } ρ' a w':=
 ⟨h.np,h.nodef,h.nt,fun t=>(h.env t).mono hs.up hs.ok,hs.heap,fun k p hk=>hs.up k p (h.pre k p hk)⟩
theorem RepV.step {x:AV} {u:Value} (h:RepV ρ (okB E ρ hp w) w x u) (hs:HStep E ρ hp w ρ' hp' w'):RepV ρ' (okB E ρ' hp' w') w' x u:=h.mono hs.up hs.ok
theorem RepH.blks (h:RepH E ρ hp w):nb ρ (okB E ρ hp w) w hp:=by
 refine ⟨fun k x b m hx hk hd=>?_,fun k sz rs hx hk=>?_⟩
 ·obtain ⟨_,us,ty,fz,h1,h2,_,h4⟩:=h.blk k x b m hx hk hd
  exact ⟨us,ty,fz,h1,h2,h4⟩
 ·rcases h.nil k _ hx hk with e|⟨sz',e⟩<;>cases e
theorem aA {α:Type} {l:List α} {x:α} {k:Nat} {y:α} (h:(l++[x])[k]?=some y):(k<l.length∧l[k]?=some y)∨(k=l.length∧y=x):=by
 rcases Nat.lt_trichotomy k l.length with hk|hk|hk
 ·rw [List.getElem?_append_left hk] at h;exact .inl ⟨hk,h⟩
 ·subst hk;simp at h;exact .inr ⟨rfl,h.symm⟩
 ·rw [List.getElem?_append_right (by omega)] at h
  have:k-l.length≠0:=by omega
  cases e:k-l.length with
  |zero=>exact absurd e this
  |succ n=>rw [e] at h;simp at h
theorem get_append_old {α:Type} {l:List α} {x:α} {k:Nat} {y:α} (h:l[k]?=some y):(l++[x])[k]?=some y:=by
 have:=(List.getElem?_eq_some_iff.1 h).1
 rw [List.getElem?_append_left this];exact h
def pushB (w:World) (o:Obj):World:={ w with heap:=w.heap.push o }
def setB (w:World) (b:Nat) (o:Obj):World:={ w with heap:=w.heap.setIfInBounds b o }
theorem Co (w:World) (o:Obj):(pushB w o).heap[w.heap.size]?=some o:=Array.getElem?_push_size
theorem n9 (w:World) (o:Obj) {b:Nat} (h:b<w.heap.size):(pushB w o).heap[b]?=w.heap[b]?:=by
 simp only [pushB];rw [Array.getElem?_push_lt h,Array.getElem?_eq_getElem h]
theorem zv (w:World) (o:Obj):(pushB w o).heap.size=w.heap.size+1:=by simp [pushB]
theorem pj (w:World) (o:Obj):Below w.heap.size w (pushB w o):=⟨rfl,rfl,rfl,by simp [pushB],fun _ h=>n9 w o h⟩
theorem sC {x:ABlk} {p:Option (Nat×Nat)} (hl:ρ.length=hp.length) {b:Nat} (h:eE (ρ++[p]) (hp++[x]) b):eE ρ hp b∨∃ m,p=some (b,m)∧x≠.dead:=by
 obtain ⟨k,y,m,hy,hd,hk⟩:=h
 rcases aA hy with ⟨h1,h2⟩|⟨h1,h2⟩
 ·rcases aA hk with ⟨_,h4⟩|⟨h3,_⟩
  ·exact .inl ⟨k,y,m,h2,hd,h4⟩
  ·omega
 ·rcases aA hk with ⟨h3,_⟩|⟨_,h4⟩
  ·omega
  ·exact .inr ⟨m,h4.symm,h2▸hd⟩
theorem HStep.pushO (h:RepH E ρ hp w) (o:Obj) (m0:Nat) (x:ABlk) (hb:cT ρ (okB E ρ hp w) w m0 o x) :
  HStep E ρ hp w (ρ++[some (w.heap.size,m0)]) (hp++[x]) (pushB w o):=by
 have hup:∀ (k:Nat) (p:Option (Nat×Nat)),ρ[k]?=some p→(ρ++[some (w.heap.size,m0)])[k]?=some p:=fun k p hk=>get_append_old hk
 have hok:∀ b,okB E ρ hp w b→okB E (ρ++[some (w.heap.size,m0)]) (hp++[x]) (pushB w o) b∧(pushB w o).heap[b]?=w.heap[b]?:=by
  intro b ⟨h1,h2,h3⟩
  refine ⟨⟨h1,by rw [zv];omega,fun hl=>?_⟩,n9 _ _ h2⟩
  rcases sC h.len hl with hl|⟨m,hm,_⟩
  ·exact h3 hl
  ·injection hm with hm;injection hm with hm;omega
 have hsz:E.w0.heap.size≤w.heap.size:=h.fr.size
 refine ⟨⟨by simp [h.len],fun k y b m hy hk hd=>?_,fun k y hy hk=>?_,fun k k' y y' b m m' hy hy' hd hd' hk hk'=>?_,h.fr.of_below (pj _ _)⟩,hup,hok⟩
 ·rcases aA hy with ⟨h1,h2⟩|⟨h1,h2⟩
  ·rcases aA hk with ⟨_,h4⟩|⟨h3,_⟩
   ·obtain ⟨q1,o',q2,q3⟩:=h.obj k y b m h2 h4 hd
    exact ⟨q1,o',(n9 _ _ (aJ q2)).trans q2,q3.mono hup hok⟩
   ·have:=h.len;omega
  ·rcases aA hk with ⟨h3,_⟩|⟨_,h4⟩
   ·have:=h.len;omega
   ·injection h4 with h4;injection h4 with h4 h5
    subst h4;subst h5;subst h2
    exact ⟨.inr hsz,_,Co _ _,hb.mono hup hok⟩
 ·rcases aA hy with ⟨h1,h2⟩|⟨h1,h2⟩
  ·rcases aA hk with ⟨_,h4⟩|⟨h3,_⟩
   ·exact h.nil k y h2 h4
   ·have:=h.len;omega
  ·rcases aA hk with ⟨h3,_⟩|⟨_,h4⟩
   ·have:=h.len;omega
   ·cases h4
 ·have key:∀ (k:Nat) (y:ABlk) (b m:Nat),(hp++[x])[k]?=some y→y≠ABlk.dead→(ρ++[some (w.heap.size,m0)])[k]?=some (some (b,m))→(b<w.heap.size∧hp[k]?=some y∧ρ[k]?=some (some (b,m)))∨(b=w.heap.size∧k=hp.length):=by
   intro k y b m hy hd hk
   rcases aA hy with ⟨h1,h2⟩|⟨h1,h2⟩
   ·rcases aA hk with ⟨_,h4⟩|⟨h3,_⟩
    ·obtain ⟨_,o',q2,_⟩:=h.obj k y b m h2 h4 hd
     exact .inl ⟨aJ q2,h2,h4⟩
    ·have:=h.len;omega
   ·rcases aA hk with ⟨h3,_⟩|⟨_,h4⟩
    ·have:=h.len;omega
    ·injection h4 with h4;injection h4 with h4 h5
     exact .inr ⟨h4,h1⟩
  rcases key k y b m hy hd hk with ⟨a1,a2,a3⟩|⟨a1,a2⟩
  ·rcases key k' y' b m' hy' hd' hk' with ⟨b1,b2,b3⟩|⟨b1,b2⟩
   ·exact h.inj k k' y y' b m m' a2 b2 hd hd' a3 b3
   ·omega
  ·rcases key k' y' b m' hy' hd' hk' with ⟨b1,b2,b3⟩|⟨b1,b2⟩
   ·omega
   ·omega
theorem HStep.push (h:RepH E ρ hp w) (us:Array Value) (ty:TypeId) (fz:Nat×Nat) (x:ABlk) (hfz:rT us fz) (hpl:plain x us fz) (hb:dy ρ (okB E ρ hp w) w us x) (hm:x.isObj=false:=by rfl) :
  HStep E ρ hp w (ρ++[some (w.heap.size,us.size)]) (hp++[x]) (pushB w (.cells us ty fz)):=
 HStep.pushO h _ _ x ((cT.cells hm).2 ⟨us,ty,fz,rfl,rfl,⟨hfz,hpl⟩,hb⟩)
theorem HStep.nilRow (h:RepH E ρ hp w) (sz:Nat):HStep E ρ hp w (ρ++[none]) (hp++[.rows sz []]) w:=by
 have hup:∀ (k:Nat) (p:Option (Nat×Nat)),ρ[k]?=some p→(ρ++[none])[k]?=some p:=fun k p hk=>get_append_old hk
 have hok:∀ b,okB E ρ hp w b→okB E (ρ++[none]) (hp++[.rows sz []]) w b∧w.heap[b]?=w.heap[b]?:=by
  intro b ⟨h1,h2,h3⟩
  refine ⟨⟨h1,h2,fun hl=>?_⟩,rfl⟩
  rcases sC h.len hl with hl|⟨m,hm,_⟩
  ·exact h3 hl
  ·cases hm
 have key:∀ (k:Nat) (y:ABlk) (p:Nat×Nat),(hp++[ABlk.rows sz []])[k]?=some y→(ρ++[none])[k]?=some (some p)→hp[k]?=some y∧ρ[k]?=some (some p):=by
  intro k y p hy hk
  rcases aA hk with ⟨_,h4⟩|⟨h3,h4⟩
  ·rcases aA hy with ⟨h1,h2⟩|⟨h1,h2⟩
   ·exact ⟨h2,h4⟩
   ·have:=(List.getElem?_eq_some_iff.1 h4).1
    have:=h.len;omega
  ·cases h4
 refine ⟨⟨by simp [h.len],fun k y b m hy hk hd=>?_,fun k y hy hk=>?_,fun k k' y y' b m m' hy hy' hd hd' hk hk'=>?_,h.fr⟩,hup,hok⟩
 ·obtain ⟨k1,k2⟩:=key k y _ hy hk
  obtain ⟨q1,o,q2,q3⟩:=h.obj k y b m k1 k2 hd
  exact ⟨q1,o,q2,q3.mono hup hok⟩
 ·rcases aA hy with ⟨h1,h2⟩|⟨h1,h2⟩
  ·rcases aA hk with ⟨_,h4⟩|⟨h3,_⟩
   ·exact h.nil k y h2 h4
   ·have:=h.len;omega
  ·exact .inr ⟨sz,h2⟩
 ·obtain ⟨k1,k2⟩:=key k y _ hy hk
  obtain ⟨k3,k4⟩:=key k' y' _ hy' hk'
  exact h.inj k k' y y' b m m' k1 k3 hd hd' k2 k4
theorem ak {α:Type} {l:List α} {k j:Nat} {x y:α} (h:(l.set k x)[j]?=some y):(j=k∧y=x∧k<l.length)∨(j≠k∧l[j]?=some y):=by
 rw [List.getElem?_set] at h
 by_cases e:k=j
 ·subst e
  simp at h
  exact .inl ⟨rfl,h.2.symm,h.1⟩
 ·rw [if_neg e] at h
  exact .inr ⟨fun e'=>e e'.symm,h⟩
theorem HStep.kill (h:RepH E ρ hp w) (k:Nat):HStep E ρ hp w ρ (hp.set k .dead) w:=by
 have hlive:∀ b,eE ρ (hp.set k .dead) b→eE ρ hp b:=by
  intro b ⟨j,y,m,hy,hd,hk⟩
  rcases ak hy with ⟨_,e,_⟩|⟨_,h2⟩
  ·exact absurd e hd
  ·exact ⟨j,y,m,h2,hd,hk⟩
 have hok:∀ b,okB E ρ hp w b→okB E ρ (hp.set k .dead) w b∧w.heap[b]?=w.heap[b]?:=fun b ⟨h1,h2,h3⟩=>⟨⟨h1,h2,fun hl=>h3 (hlive b hl)⟩,rfl⟩
 refine ⟨⟨by simp [h.len],fun j y b m hy hk hd=>?_,fun j y hy hk=>?_,fun j j' y y' b m m' hy hy' hd hd' hk hk'=>?_,h.fr⟩,fun _ _ hk=>hk,hok⟩
 ·rcases ak hy with ⟨_,e,_⟩|⟨_,h2⟩
  ·exact absurd e hd
  ·obtain ⟨q1,o,q2,q3⟩:=h.obj j y b m h2 hk hd
   exact ⟨q1,o,q2,q3.mono (fun _ _ hh=>hh) hok⟩
 ·rcases ak hy with ⟨_,e,_⟩|⟨_,h2⟩
  ·exact .inl e
  ·exact h.nil j y h2 hk
 ·rcases ak hy with ⟨_,e,_⟩|⟨_,h2⟩
  ·exact absurd e hd
  ·rcases ak hy' with ⟨_,e,_⟩|⟨_,h2'⟩
   ·exact absurd e hd'
   ·exact h.inj j j' y y' b m m' h2 h2' hd hd' hk hk'
theorem uf (w:World) (o:Obj) {b:Nat} (h:b<w.heap.size):(setB w b o).heap[b]?=some o:=by simp [setB,h]
theorem mA (w:World) (o:Obj) {b c:Nat} (h:c≠b):(setB w b o).heap[c]?=w.heap[c]?:=by
 simp only [setB];rw [Array.getElem?_setIfInBounds_ne (fun e=>h e.symm)]
theorem tV (w:World) (b:Nat) (o:Obj):(setB w b o).heap.size=w.heap.size:=by simp [setB]
theorem HStep.setO (h:RepH E ρ hp w) {k b m:Nat} {x x':ABlk} {o:Obj} (hx:hp[k]?=some x) (hd:x≠.dead) (hd':x'≠.dead)
  (hk:ρ[k]?=some (some (b,m))) (hb:cT ρ (okB E ρ hp w) w m o x') :
  HStep E ρ hp w ρ (hp.set k x') (setB w b o):=by
 have hkl:k<hp.length:=(List.getElem?_eq_some_iff.1 hx).1
 have hlb:eE ρ hp b:=⟨k,x,m,hx,hd,hk⟩
 have hlive:∀ c,eE ρ (hp.set k x') c→eE ρ hp c:=by
  intro c ⟨j,y,m',hy,hyd,hj⟩
  rcases ak hy with ⟨e,_,_⟩|⟨_,h2⟩
  ·subst e;rw [hk] at hj;injection hj with hj;injection hj with hj;injection hj with hj _;subst hj;exact hlb
  ·exact ⟨j,y,m',h2,hyd,hj⟩
 have hok:∀ c,okB E ρ hp w c→okB E ρ (hp.set k x') (setB w b o) c∧(setB w b o).heap[c]?=w.heap[c]?:=by
  intro c ⟨h1,h2,h3⟩
  have hne:c≠b:=fun e=>h3 (e▸hlb)
  exact ⟨⟨h1,by rw [tV];exact h2,fun hl=>h3 (hlive c hl)⟩,mA _ _ hne⟩
 obtain ⟨p1,o0,p2,p3⟩:=h.obj k x b m hx hk hd
 refine ⟨⟨by simp [h.len],fun j y c m' hy hj hyd=>?_,fun j y hy hj=>?_,fun j j' y y' c m1 m2 hy hy' hyd hyd' hj hj'=>?_,?_⟩,fun _ _ hh=>hh,hok⟩
 ·rcases ak hy with ⟨e,e',_⟩|⟨hne,h2⟩
  ·subst e;subst e'
   rw [hk] at hj;injection hj with hj;injection hj with hj;injection hj with hj1 hj2;subst hj1;subst hj2
   exact ⟨p1,o,uf _ _ (aJ p2),hb.mono (fun _ _ hh=>hh) hok⟩
  ·obtain ⟨q1,o2,q2,q3⟩:=h.obj j y c m' h2 hj hyd
   have hcb:c≠b:=fun e=>hne (h.inj j k y x c m' m h2 hx hyd hd hj (e▸hk))
   exact ⟨q1,o2,(mA _ _ hcb).trans q2,q3.mono (fun _ _ hh=>hh) hok⟩
 ·rcases ak hy with ⟨e,e',_⟩|⟨_,h2⟩
  ·subst e;rw [hk] at hj;cases hj
  ·exact h.nil j y h2 hj
 ·have key:∀ (j:Nat) (y:ABlk),(hp.set k x')[j]?=some y→y≠ABlk.dead→∃ y0:ABlk,hp[j]?=some y0∧y0≠ABlk.dead:=by
   intro j y hy hyd
   rcases ak hy with ⟨e,_,_⟩|⟨_,h2⟩
   ·subst e;exact ⟨x,hx,hd⟩
   ·exact ⟨y,h2,hyd⟩
  obtain ⟨z,z1,z2⟩:=key j y hy hyd
  obtain ⟨z',z1',z2'⟩:=key j' y' hy' hyd'
  exact h.inj j j' z z' c m1 m2 z1 z1' z2 z2' hj hj'
 ·refine ⟨h.fr.os,h.fr.tape,h.fr.output,by rw [tV];exact h.fr.size,fun c hc hL=>?_⟩
  have hne:c≠b:=by
   intro e;subst e
   rcases p1 with p1|p1
   ·exact hL p1
   ·omega
  rw [mA _ _ hne]
  exact h.fr.block c hc hL
theorem HStep.set (h:RepH E ρ hp w) {k b m:Nat} {x x':ABlk} {us us':Array Value} {ty:TypeId} {fz:Nat×Nat} (hx:hp[k]?=some x) (hd:x≠.dead) (hd':x'≠.dead)
  (hk:ρ[k]?=some (some (b,m))) (hw:w.heap[b]?=some (.cells us ty fz)) (hsz:us'.size=us.size) (hbb:∀ l,x=.bytes l→∃ l',x'=.bytes l') (hb:dy ρ (okB E ρ hp w) w us' x')
  (hm:x.isObj=false:=by rfl) (hm':x'.isObj=false:=by rfl):HStep E ρ hp w ρ (hp.set k x') (setB w b (.cells us' ty fz)):=by
 obtain ⟨p1,us0,ty0,fz0,p2,p3,p4,p5⟩:=h.blk k x b m hx hk ⟨hd,hm⟩
 rw [hw] at p2
 injection p2 with p2;injection p2 with e1 e2 e3
 subst e1;subst e2;subst e3
 exact HStep.setO h hx hd hd' hk ((cT.cells hm').2 ⟨us',ty,fz,rfl,hsz.trans p3,⟨fun q hq=>p4.1 q (hsz▸hq),p4.2.elim (fun ⟨l,hl⟩=>.inl (hbb l hl)) (fun h=>.inr (by rw [hsz];exact h))⟩,hb⟩)
end
structure MR where
 ok:Prop
 v:AV
 hp:List ABlk
def G2:AV→Option DV
 |.d x=>some x
 |_=>none
def iH:List AV→Option (List DV)
 |[]=>some []
 | x::r=>match G2 x,iH r with
   |some y,some l=>some (y::l)
   |_,_=>none
def nH (sz:Nat):Nat→List AV→Option (List (List DV))
 |0,_=>some []
 | n+1,cs=>match iH (cs.take sz),nH sz n (cs.drop sz) with
   |some r,some l=>some (r::l)
   |_,_=>none
def o8 (sz n:Nat) (cs:List AV):ABlk:=
 match nH sz n cs with
 |some rows=>.rows sz rows
 |none=>.cells cs
theorem CR (sz n:Nat) (cs:List AV):(o8 sz n cs).isObj=false:=by unfold o8;split<;>rfl
def mi (ti:TI) (hp:List ABlk):MR:=⟨(ti.kind matches .other)=false,.ptr hp.length 0,hp++[.cells (ti.zero.map .d)]⟩
def yh (x:AV) (hp:List ABlk):MR:=⟨cE x∧lG (ai x)=false,.ptr hp.length 0,hp++[.cells (acells (ai x))]⟩
def dn (T:TypeId→TI) (ti:TI) (len:Nat) (parts:List (Nat×AV)) (hp:List ABlk):MR:=
 match ti.kind with
 |.slice e=>⟨len*(T e).size≤2^24∧0<(T e).size∧(fd (fun i=>some (i*(T e).size,(T e).size)) parts ((List.replicate len (T e).zero).flatten.map .d)).1∧((T e).kind matches .other)=false,
   .osl hp.length (T e).size 0 len,hp++[o8 (T e).size len (fd (fun i=>some (i*(T e).size,(T e).size)) parts ((List.replicate len (T e).zero).flatten.map .d)).2]⟩
 |_=>⟨False,.any,hp⟩
def o7 (T:TypeId→TI) (ti:TI) (x y:AV) (hp:List ABlk):MR:=
 match ti.kind,x,y with
 |.slice e,.d (.int _ l),.d (.int _ c)=>⟨0≤l∧l≤c∧((T e).bytes:Int)*c≤281474976710656∧c≤9223372036854775807∧0<(T e).size∧((T e).kind matches .other)=false,
   .osl hp.length (T e).size 0 l.toNat,hp++[.rows (T e).size (List.replicate l.toNat (T e).zero)]⟩
 |_,_,_=>⟨False,.any,hp⟩
def spl {α:Type} (l news:List α) (off:Nat):List α:=
 match news with
 |[x]=>l.set off x
 |_=>l.take off++news++l.drop (off+news.length)
def mz (ti:TI) (x v:AV) (hp:List ABlk):MR:=
 match x with
 | .ptr k off=>
   (match hp[k]? with
   |some (.cells cs)=>⟨lG v=false∧(acells v).length=ti.size∧off+ti.size≤cs.length∧(ti.kind matches .other)=false,.any,hp.set k (.cells (spl cs (acells v) off))⟩
   |_=>⟨False,.any,hp⟩)
 | .rp k sz i off=>
   (match hp[k]?,iH (acells v) with
   |some (.rows sz' rs),some ds=>⟨sz=sz'∧lG v=false∧ds.length=ti.size∧i<rs.length∧off+ti.size≤sz∧(ti.kind matches .other)=false,.any,hp.set k (.rows sz' (rs.set i (spl (rs.getD i []) ds off)))⟩
   |_,_=>⟨False,.any,hp⟩)
 |_=>⟨False,.any,hp⟩
section
variable {P:Program} {E:Ent} {ρ:List (Option (Nat×Nat))} {hp:List ABlk} {w:World}
def jV (E:Ent) (ρ:List (Option (Nat×Nat))) (hp:List ABlk) (w:World) (r:Result Next) (v:AV) (hp':List ABlk):Prop:=
 ∃ u w' ρ',(r=.ok (.value u) w'∨(r=.ok .skip w'∧u=undef))∧HStep E ρ hp w ρ' hp' w'∧RepV ρ' (okB E ρ' hp' w') w' v u
theorem nO:∀ {cs:List AV} {ds:List DV},iH cs=some ds→cs=ds.map .d
 |[],ds,h=>by simp [iH] at h;subst h;rfl
 | x :: r,ds,h=>by
   cases x with
   | d y=>
     simp only [iH,G2] at h
     cases hr:iH r with
     |none=>simp [hr] at h
     | some l=>
       simp [hr] at h
       subst h
       have:=nO hr
       simp [this]
   |_=>simp [iH,G2] at h
theorem um {sz:Nat}:∀ {n:Nat} {cs:List AV} {rows:List (List DV)},nH sz n cs=some rows→cs.length=n*sz→
  (∀ r,r∈rows→r.length=sz)∧rows.length=n∧∀ (i:Nat) (r:List DV),rows[i]?=some r→∀ (j:Nat) (c:DV),r[j]?=some c→cs[i*sz+j]?=some (.d c)
 |0,cs,rows,h,hl=>by simp [nH] at h;subst h;simp
 | n + 1,cs,rows,h,hl=>by
   simp only [nH] at h
   cases h1:iH (cs.take sz) with
   |none=>simp [h1] at h
   | some r0=>
     cases h2:nH sz n (cs.drop sz) with
     |none=>simp [h1,h2] at h
     | some l=>
       simp [h1,h2] at h
       subst h
       rw [Nat.add_mul] at hl
       obtain ⟨a1,a2,a3⟩:=um h2 (by simp;omega)
       have e1:=nO h1
       have el:r0.length=sz:=by
        have:=congrArg List.length e1
        simp at this;omega
       refine ⟨fun r hr=>?_,by simp [a2],fun i r hi j c hj=>?_⟩
       ·rcases List.mem_cons.1 hr with rfl|hr
        ·exact el
        ·exact a1 r hr
       ·match i with
        | 0=>
          simp at hi;subst hi
          have hjl:j<sz:=el▸(List.getElem?_eq_some_iff.1 hj).1
          have:(cs.take sz)[j]?=some (.d c):=by rw [e1,List.getElem?_map,hj];rfl
          rw [List.getElem?_take,if_pos hjl] at this
          simpa using this
        | i+1=>
          have:=a3 i r (by simpa using hi) j c hj
          rw [List.getElem?_drop] at this
          rw [show (i+1)*sz+j=sz+(i*sz+j) from by rw [Nat.add_mul];omega]
          exact this
theorem vh {ok:Nat→Prop} {us:Array Value} {sz n:Nat} {cs:List AV} (hsz:us.size=cs.length) (hcl:cs.length=n*sz) (hone:∀ u,u∈us.toList→u.oneCell'=true)
  (hr:∀ (j:Nat) (c:AV) (u:Value),cs[j]?=some c→us[j]?=some u→RepV ρ ok w c u):dy ρ ok w us (o8 sz n cs):=by
 unfold o8
 split
 ·rename_i rows hc
  obtain ⟨a1,a2,a3⟩:=um hc hcl
  refine ⟨hone,a1,by rw [a2,hsz,hcl];exact Nat.le_refl _,fun i r hi j c u hj hu=>?_⟩
  have:=hr _ _ _ (a3 i r hi j c hj) hu
  cases this with|d _ _ h=>exact h
 ·exact ⟨hone,hsz,hr⟩
theorem m6 {ok:Nat→Prop} {us:Array Value} {cs:List AV} (hsz:us.size=cs.length) (hone:∀ u,u∈us.toList→u.oneCell'=true)
  (hr:∀ (j:Nat) (c:AV) (u:Value),cs[j]?=some c→us[j]?=some u→RepV ρ ok w c u):dy ρ ok w us (.cells cs):=⟨hone,hsz,hr⟩
theorem qB (us:Array Value):rT us (0,0):=fun j _ h=>by omega
theorem mt (x:ABlk) (us:Array Value):plain x us (0,0):=.inr (by omega)
theorem pG {us:Array Value} {hp:List ABlk} (h:RepH E ρ hp w):(ρ++[some (w.heap.size,us.size)])[hp.length]?=some (some (w.heap.size,us.size)):=by
 rw [←h.len];simp
theorem uB {T:TypeId→TI} (hT:an P T) (h:RepH E ρ hp w) (t:TypeId) (hk:(mi (T t) hp).ok) :
  ∃ u,jV E ρ hp w (.ok (.value u) (pushB w (.cells ((T t).zero.map DV.val).toArray t))) (mi (T t) hp).v (mi (T t) hp).hp∧
    (Instr.alloc t true (.tuple #[])).run P w=.ok u (pushB w (.cells ((T t).zero.map DV.val).toArray t)):=by
 have hko:=am hk
 obtain ⟨z,hz1,hz2,_⟩:=dS (P:=P) hT hko
 have hz3:z.cells=((T t).zero.map DV.val).toArray:=by rw [←hz2]
 refine ⟨.pointer (some ⟨w.heap.size,0,none⟩),⟨_,_,_,.inl rfl,HStep.push h _ t (0,0) (.cells ((T t).zero.map .d)) (qB _) (mt _ _) (m6 (by simp) (fun u hu=>jc hT hko u (by simpa using hu)) fun j c u hc hu=>rM hT hko j c u hc (by simpa using hu)),?_⟩,?_⟩
 ·exact .ptr _ 0 _ _ (pG h)
 ·simp [Instr.alloc,hz1,newVar,newRow,hz3,pushB]
theorem zf (h:RepH E ρ hp w) (t:TypeId) (x:AV) (ux:Value) (hx:RepV ρ (okB E ρ hp w) w x ux) (hk:(yh x hp).ok) :
  ∃ u w',jV E ρ hp w (.ok (.value u) w') (yh x hp).v (yh x hp).hp∧(Instr.box t ux).run P w=.ok u w':=by
 obtain ⟨hg,ht⟩:=hk
 obtain ⟨h1,h2,h3⟩:=k8 (ah hx hg) ht
 refine ⟨.pointer (some ⟨w.heap.size,0,none⟩),pushB w (.cells ux.cells t),⟨_,_,_,.inl rfl,HStep.push h _ t (0,0) (.cells (acells (ai x))) (qB _) (mt _ _) (m6 (by simpa using h1) h2 (fun j c u hc hu=>h3 j c u hc (by simpa using hu))),.ptr _ 0 _ _ (pG h)⟩,?_⟩
 simp [Instr.box,newVar,newRow,pushB]
theorem kQ {T:TypeId→TI} (hT:an P T) {e:TypeId} (hk:(T e).kind≠.other) {z:Value} (hz:z.cells.toList=(T e).zero.map DV.val) (hsz:0<(T e).size) (n:Nat) :
  ((Array.range (n*(T e).size)).map (z.cells[·%z.cells.size]!)).toList=((List.replicate n (T e).zero).flatten).map DV.val:=by
 have hzl:=(aE hT hk).zl
 have hzs:z.cells.size=(T e).size:=by rw [←Array.length_toList,hz,List.length_map,hzl]
 have key:∀ n,(List.range (n*(T e).size)).map (fun i=>z.cells[i%z.cells.size]!)=((List.replicate n (T e).zero).flatten).map DV.val:=by
  intro n
  induction n with
  |zero=>simp
  | succ n ih=>
    rw [Nat.add_mul,Nat.one_mul,List.range_add,List.map_append,ih,List.replicate_succ',List.flatten_append,List.map_append]
    congr 1
    simp only [List.flatten_cons,List.flatten_nil,List.append_nil,←hz,List.map_map]
    apply List.ext_getElem?
    intro j
    by_cases hj:j<(T e).size
    ·have hj':j<z.cells.size:=by omega
     have em:(n*(T e).size+j)%(T e).size=j:=by
      rw [Nat.add_comm,Nat.add_mul_mod_self_right,Nat.mod_eq_of_lt hj]
     simp [hj,hj',hzs,em]
    ·rw [List.getElem?_eq_none (by simp;omega),List.getElem?_eq_none (by simp;omega)]
 have:=key n
 simpa using this
theorem nG {T:TypeId→TI} (hT:an P T) (h:RepH E ρ hp w) (t:TypeId) (len:Nat) (parts:List (Nat×AV)) (vparts:List (Nat×Value)) (hl:vparts.length=parts.length)
  (hp':∀ (j:Nat) (x:Nat×AV) (y:Nat×Value),parts[j]?=some x→vparts[j]?=some y→y.1=x.1∧RepV ρ (okB E ρ hp w) w x.2 y.2) (hk:(dn T (T t) len parts hp).ok) :
  ∃ u w',jV E ρ hp w (.ok (.value u) w') (dn T (T t) len parts hp).v (dn T (T t) len parts hp).hp∧(Instr.buildSlice t len vparts.toArray).run P w=.ok u w':=by
 revert hk
 unfold dn
 split
 ·rename_i e hke
  intro ⟨hlim,hpos,hfill,hko⟩
  have hko:=am hko
  obtain ⟨z,hz1,hz2,_⟩:=dS (P:=P) hT hko
  have hmade:=kQ hT hko hz2 hpos len
  obtain ⟨us,e1,e2,e3,e4⟩:=lv (ρ:=ρ) (ok:=okB E ρ hp w) (w:=w) (place:=fun i=>some (i*(T e).size,(T e).size)) parts vparts ((List.replicate len (T e).zero).flatten.map .d)
   ((Array.range (len*(T e).size)).map (z.cells[·%z.cells.size]!)) hl hp'
   (by rw [←Array.length_toList,hmade];simp)
   (fun u hu=>by
    rw [hmade] at hu
    obtain ⟨x,hx,rfl⟩:=List.mem_map.1 hu
    obtain ⟨l,hl1,hl2⟩:=List.mem_flatten.1 hx
    have:=(List.mem_replicate.1 hl1).2
    subst this
    exact jc hT hko _ (List.mem_map.2 ⟨x,hl2,rfl⟩))
   (fun j c u hc hu=>by
    have hu':(((List.replicate len (T e).zero).flatten).map DV.val)[j]?=some u:=by rw [←hmade,Array.getElem?_toList];exact hu
    rw [List.getElem?_map] at hc hu'
    obtain ⟨x,hx,rfl⟩:=Option.map_eq_some_iff.1 hc
    rw [hx] at hu'
    simp at hu'
    subst hu'
    obtain ⟨l,hl1,hl2⟩:=List.mem_flatten.1 (List.mem_of_getElem? hx)
    have:=(List.mem_replicate.1 hl1).2
    subst this
    have:=(aE hT hko).one x hl2
    exact .d _ _ (pK this.1 this.2)) hfill
  have hlen:(fd (fun i=>some (i*(T e).size,(T e).size)) parts ((List.replicate len (T e).zero).flatten.map .d)).2.length=len*(T e).size:=by
   have key:∀ (parts:List (Nat×AV)) (cs:List AV),(fd (fun i=>some (i*(T e).size,(T e).size)) parts cs).1→(fd (fun i=>some (i*(T e).size,(T e).size)) parts cs).2.length=cs.length:=by
    intro parts
    induction parts with
    |nil=>intro cs _;rfl
    | cons p rest ih=>
      intro cs hh
      obtain ⟨i,v⟩:=p
      simp only [fd] at hh ⊢
      rw [ih _ hh.2.2.2,cC _ _ _ hh.2.1]
   rw [key _ _ hfill]
   have:=(aE hT hko).zl
   have hrep:∀ n:Nat,((List.replicate n (T e).zero).flatten).length=n*(T e).size:=by
    intro n
    induction n with
    |zero=>simp
    |succ n ih=>rw [List.replicate_succ,List.flatten_cons,List.length_append,ih,this,Nat.add_mul];omega
   rw [List.length_map,hrep]
  refine ⟨.slice (some ⟨w.heap.size,0,none⟩) len len,pushB w (.cells us e),⟨_,_,_,.inl rfl,HStep.push h _ e (0,0) (o8 (T e).size len (fd (fun i=>some (i*(T e).size,(T e).size)) parts ((List.replicate len (T e).zero).flatten.map .d)).2) (qB _) (mt _ _) (vh e2 hlen e3 e4) (CR _ _ _),?_⟩,?_⟩
  ·have:=RepV.osl (ρ:=ρ++[some (w.heap.size,us.size)]) (ok:=okB E (ρ++[some (w.heap.size,us.size)]) (hp++[o8 (T e).size len (fd (fun i=>some (i*(T e).size,(T e).size)) parts ((List.replicate len (T e).zero).flatten.map .d)).2]) (pushB w (.cells us e))) (w:=pushB w (.cells us e)) hp.length (T e).size 0 len w.heap.size us.size len (pG h) (by rw [e2,hlen,Nat.zero_add]) (Nat.le_refl _)
   simpa using this
  ·have hlim':¬ (2^24<len*(T e).size):=by omega
   by_cases hz0:len*(T e).size=0
   ·have hz:(Array.range (len*(T e).size)).map (z.cells[·%z.cells.size]!)=#[]:=by
     rw [hz0];simp [Array.range_zero']
    rw [hz] at e1
    simp [Instr.buildSlice,run_underlying (aw hT hke),aD hT hko,hz0,Array.range_zero',e1,newRow,pushB]
   ·simp [Instr.buildSlice,run_underlying (aw hT hke),aD hT hko,hlim',hz0,hz1,e1,newRow,pushB]
 ·intro h;exact h.elim
theorem vN {T:TypeId→TI} (hT:an P T) (h:RepH E ρ hp w) (t:TypeId) (x y:AV) (ux uy:Value) (hx:RepV ρ (okB E ρ hp w) w x ux) (hy:RepV ρ (okB E ρ hp w) w y uy)
  (hk:(o7 T (T t) x y hp).ok) :
  ∃ u w',jV E ρ hp w (.ok (.value u) w') (o7 T (T t) x y hp).v (o7 T (T t) x y hp).hp∧(Instr.makeSlice t ux uy).run P w=.ok u w':=by
 revert hk
 unfold o7
 split
 ·rename_i e kl l kc c hke
  intro ⟨h0,hlc,hby,h63,hpos,hko⟩
  have hko:=am hko
  cases hx with|d _ _ hx=>cases hx with|int _ _=>
  cases hy with|d _ _ hy=>cases hy with|int _ _=>
  obtain ⟨i,z,hi1,hi2,hi3,hi4,hi5⟩:=(aE hT hko).info
  obtain ⟨z',hz1,hz2,_⟩:=dS (P:=P) hT hko
  have hzz:z'=z:=by
   have:=hz1 w
   simp [zeroValue,typeInfo,hi1,hi4] at this
   exact this.symm
  subst hzz
  have hrun:=run_make (P:=P) w t e i z' (aw hT hke) hi1 hi4 kl kc l c h0 hlc (by rw [hi3];exact hby) h63
  rw [hi2] at hrun
  have hmade:(madeCells z'.cells (c.toNat*(T e).size)).toList=((List.replicate c.toNat (T e).zero).flatten).map DV.val:=kQ hT hko hz2 hpos c.toNat
  refine ⟨_,pushB w (.cells (madeCells z'.cells (c.toNat*(T e).size)) e),⟨_,_,_,.inl rfl,HStep.push h _ e (0,0) (.rows (T e).size (List.replicate l.toNat (T e).zero)) (qB _) (mt _ _) ⟨?_,?_,?_,?_⟩,?_⟩,hrun⟩
  ·intro u hu
   rw [hmade] at hu
   obtain ⟨x,hx,rfl⟩:=List.mem_map.1 hu
   obtain ⟨q,hl1,hl2⟩:=List.mem_flatten.1 hx
   have:=(List.mem_replicate.1 hl1).2
   subst this
   exact jc hT hko _ (List.mem_map.2 ⟨x,hl2,rfl⟩)
  ·intro r hr
   rw [(List.mem_replicate.1 hr).2]
   exact (aE hT hko).zl
  ·rw [size_madeCells,List.length_replicate]
   exact Nat.mul_le_mul_right _ (by omega)
  ·intro q r hq j x u hj hu
   obtain ⟨hq1,hq2⟩:=List.getElem?_eq_some_iff.1 hq
   simp at hq1 hq2
   subst hq2
   have hjl:j<(T e).size:=by rw [←(aE hT hko).zl];exact (List.getElem?_eq_some_iff.1 hj).1
   have hzs:z'.cells.size=(T e).size:=by rw [←Array.length_toList,hz2,List.length_map,(aE hT hko).zl]
   have hlt:q*(T e).size+j<c.toNat*(T e).size:=by
    have:(q+1)*(T e).size≤c.toNat*(T e).size:=Nat.mul_le_mul_right _ (by omega)
    rw [Nat.add_mul] at this
    omega
   have em:(q*(T e).size+j)%(T e).size=j:=by
    rw [Nat.add_comm,Nat.add_mul_mod_self_right,Nat.mod_eq_of_lt hjl]
   have hu2:u=x.val:=by
    have h1:(z'.cells.toList)[j]?=some x.val:=by rw [hz2,List.getElem?_map,hj];rfl
    simp [madeCells,hlt,hzs,em] at hu
    have hjz:j<z'.cells.size:=by omega
    rw [Array.getElem?_toList,Array.getElem?_eq_getElem hjz] at h1
    simp [hjz] at hu
    injection h1 with h1
    rw [←hu,h1]
   subst hu2
   have:=(aE hT hko).one x (List.mem_of_getElem? hj)
   exact pK this.1 this.2
  ·have:=RepV.osl (ρ:=ρ++[some (w.heap.size,(madeCells z'.cells (c.toNat*(T e).size)).size)]) (ok:=okB E (ρ++[some (w.heap.size,(madeCells z'.cells (c.toNat*(T e).size)).size)]) (hp++[.rows (T e).size (List.replicate l.toNat (T e).zero)]) (pushB w (.cells (madeCells z'.cells (c.toNat*(T e).size)) e))) (w:=pushB w (.cells (madeCells z'.cells (c.toNat*(T e).size)) e)) hp.length (T e).size 0 l.toNat w.heap.size _ c.toNat (pG h) (by rw [size_madeCells,Nat.zero_add]) (by omega)
   simpa using this
 ·intro h;exact h.elim
end
theorem yi {α:Type} (l news:List α) (off:Nat) (h:off+news.length≤l.length):spl l news off=l.take off++news++l.drop (off+news.length):=by
 unfold spl
 split
 ·rename_i x
  apply List.ext_getElem?
  intro j
  rw [aH _ _ _ h,List.getElem?_set]
  simp only [List.length_cons,List.length_nil] at h ⊢
  by_cases e:off=j
  ·subst e
   rw [if_pos rfl,if_pos (by omega),if_pos (by omega)]
   simp
  ·rw [if_neg e,if_neg (by omega)]
 ·rfl
theorem qD {α:Type} (l news:List α) (off:Nat) (h:off+news.length≤l.length):(spl l news off).length=l.length:=by
 rw [yi _ _ _ h,cC _ _ _ h]
section
variable {P:Program} {E:Ent} {ρ:List (Option (Nat×Nat))} {hp:List ABlk} {w:World}
theorem Cq (w:World) (b:Nat) (o o':Obj):setB (setB w b o) b o'=setB w b o':=by
 unfold setB
 simp
theorem ug (w:World) (b:Nat) (o:Obj) (h:w.heap[b]?=some o):setB w b o=w:=by
 obtain ⟨h1,h2⟩:=Array.getElem?_eq_some_iff.1 h
 cases w with
 | mk heap tape drawn os output=>
   simp only [setB]
   congr 1
   apply Array.ext
   ·simp
   ·intro i h3 h4
    simp only at h1 h2
    rw [Array.getElem_setIfInBounds]
    split
    ·rename_i e;subst e;exact h2.symm
    ·rfl
theorem uU (w:World) (g i:Nat) (cur:Array Value) (t:TypeId) (fz:Nat×Nat) (v:Value) (hg:w.heap[g]?=some (.cells cur t fz)) :
  w.setCell ⟨g,i,none⟩ v=setB w g (.cells (cur.setIfInBounds i v) t fz):=by
 obtain ⟨h1,h2⟩:=Array.getElem?_eq_some_iff.1 hg
 unfold setB World.setCell
 congr 1
 apply Array.ext
 ·simp
 ·intro j h3 h4
  rw [Array.getElem_modify,Array.getElem_setIfInBounds]
  split
  ·rename_i e;subst e;simp [h2]
  ·rfl
theorem uN (w:World) (g o:Nat) (cur:Array Value) (t:TypeId) (fz:Nat×Nat) (v:Value) (hg:w.heap[g]?=some (.cells cur t fz)) (ho:o<cur.size) (hfz:rT cur fz)
  (h1:v.oneCell'=true):(store ⟨g,o,none⟩ v).run P w=.ok () (setB w g (.cells (cur.setIfInBounds o v) t fz)):=by
 have hcell:w.cell? ⟨g,o,none⟩=some cur[o]:=by rw [aL hg];simp [ho]
 have hfro:w.frozen? ⟨g,o,none⟩=false:=by
  have:=hfz o ho
  simp [World.frozen?,hg]
  omega
 rw [run_store P w _ v _ h1,hcell]
 simp only [hfro]
 simp [uU w g o cur t fz v hg]
theorem ch (g o:Nat) (t:TypeId) (fz:Nat×Nat):∀ (vs:List Value) (i:Nat) (cur:Array Value) (w:World),w.heap[g]?=some (.cells cur t fz)→o+i+vs.length≤cur.size→rT cur fz→(∀ v∈vs,v.oneCell'=true)→
  (storeCells ⟨g,o,none⟩ vs i).run P w=.ok () (setB w g (.cells (cur.toList.take (o+i)++vs++cur.toList.drop (o+i+vs.length)).toArray t fz))
 | [],i,cur,w,hg,_,_,_=>by
   simp only [storeCells,List.append_nil,List.length_nil,Nat.add_zero,List.take_append_drop,Array.toArray_toList]
   rw [ug w g _ hg]
   rfl
 | v :: rest,i,cur,w,hg,hl,hfz,h1=>by
   have hi:o+i<cur.size:=by simp at hl;omega
   have hst:=uN (P:=P) w g (o+i) cur t fz v hg hi hfz (h1 v (by simp))
   have ih:=ch g o t fz rest (i+1) (cur.setIfInBounds (o+i) v) (setB w g (.cells (cur.setIfInBounds (o+i) v) t fz)) (uf _ _ (aJ hg)) (by simp at hl ⊢;omega)
    (fun j hj=>hfz j (by simpa using hj)) (fun x hx=>h1 x (by simp [hx]))
   simp only [storeCells,Addr.add_lit,Sem.run_bind,hst,Result.andThen_ok,ih,Cq]
   have e:=list_seg_step cur.toList (o+i) v rest (by simp at hl ⊢;omega)
   have e':(cur.setIfInBounds (o+i) v).toList.take (o+(i+1))++rest++(cur.setIfInBounds (o+i) v).toList.drop (o+(i+1)+rest.length)=cur.toList.take (o+i)++v::rest++cur.toList.drop (o+i+(v::rest).length):=by
    simpa [Array.toList_setIfInBounds,Nat.add_assoc] using e
   rw [e']
theorem fV {T:TypeId→TI} (hT:an P T) (t:TypeId) (hk:(T t).kind≠.other) (g o:Nat) (ty:TypeId) (fz:Nat×Nat) (cur:Array Value) (v:Value) (hg:w.heap[g]?=some (.cells cur ty fz))
  (hsz:v.cells.size=(T t).size) (ho:o+(T t).size≤cur.size) (hfz:rT cur fz) (h1:∀ x,x∈v.cells.toList→x.oneCell'=true) :
  (Instr.storeAt t (.pointer (some ⟨g,o,none⟩)) v).run P w=.ok () (setB w g (.cells (cur.toList.take o++v.cells.toList++cur.toList.drop (o+(T t).size)).toArray ty fz)):=by
 have:=ch (P:=P) g o ty fz v.cells.toList 0 cur w hg (by simp [hsz];exact ho) hfz h1
 simp only [Nat.add_zero,Array.length_toList,hsz] at this
 simp [Instr.storeAt,Instr.sureAddr,storeVar,aD hT hk,hsz,this]
theorem nn {T:TypeId→TI} (hT:an P T) (h:RepH E ρ hp w) (t:TypeId) (x v:AV) (ux uv:Value) (hx:RepV ρ (okB E ρ hp w) w x ux) (hv:RepV ρ (okB E ρ hp w) w v uv) (hk:(mz (T t) x v hp).ok) :
  ∃ w',jV E ρ hp w (.ok .skip w') (mz (T t) x v hp).v (mz (T t) x v hp).hp∧(Instr.storeAt t ux uv).run P w=.ok () w':=by
 revert hk
 unfold mz
 split
 ·rename_i k off
  split
  ·rename_i cs hcs
   intro ⟨ht,hl,hfit,hko⟩
   have hko:=am hko
   cases hx with|ptr _ _ b m hkk=>
   obtain ⟨q1,us,ty,fz,hw,hm,hfz,hone,hsz,hr⟩:=h.blk k _ b m hcs hkk (by simp)
   obtain ⟨c1,c2,c3⟩:=k8 hv ht
   have hcs2:uv.cells.size=(T t).size:=by rw [←Array.length_toList,c1,hl]
   have hrun:=fV (P:=P) hT t hko b off ty fz us uv hw hcs2 (by rw [hsz];exact hfit) hfz.1 c2
   refine ⟨_,⟨undef,_,_,.inr ⟨rfl,rfl⟩,HStep.set h hcs (by simp) (by simp) hkk hw (us':=(us.toList.take off++uv.cells.toList++us.toList.drop (off+(T t).size)).toArray) ?_ (fun l e=>by cases e) ⟨?_,?_,?_⟩,.any _⟩,hrun⟩
   ·simp;omega
   ·intro u hu
    simp only [List.mem_append] at hu
    rcases hu with (hu|hu)|hu
    ·exact hone u (List.mem_of_mem_take hu)
    ·exact c2 u hu
    ·exact hone u (List.mem_of_mem_drop hu)
   ·rw [qD _ _ _ (by omega)];simp;omega
   ·intro j c u hc hu
    have hul:us.toList.length=cs.length:=by simpa using hsz
    rw [yi _ _ _ (by omega),aH _ _ _ (by omega)] at hc
    have hu':(us.toList.take off++uv.cells.toList++us.toList.drop (off+uv.cells.toList.length))[j]?=some u:=by
     rw [Array.length_toList,hcs2];simpa using hu
    rw [aH _ _ _ (by rw [c1];omega),c1] at hu'
    split at hc
    ·rename_i hj;rw [if_pos hj] at hu';exact c3 _ _ _ hc hu'
    ·rename_i hj;rw [if_neg hj] at hu';exact hr _ _ _ hc (by simpa using hu')
  ·intro h;exact h.elim
 ·rename_i k sz i off
  split
  ·rename_i sz' rs ds hcs hds
   intro ⟨h0,ht,hl,hi,hfit,hko⟩
   subst h0
   have hko:=am hko
   cases hx with|rp _ _ _ _ b m hkk=>
   obtain ⟨q1,us,ty,fz,hw,hm,hfz,hone,hrl,hsz,hr⟩:=h.blk k _ b m hcs hkk (by simp)
   obtain ⟨c1,c2,c3⟩:=k8 hv ht
   have hdm:=nO hds
   have hcl:(acells v).length=ds.length:=by rw [hdm,List.length_map]
   have hcs2:uv.cells.size=(T t).size:=by rw [←Array.length_toList,c1,hcl,hl]
   have hrow:=cJ rs i [] hi
   have hrlen:(rs.getD i []).length=sz:=hrl _ (List.mem_of_getElem? hrow)
   have hbig:(i+1)*sz≤rs.length*sz:=Nat.mul_le_mul_right _ hi
   rw [Nat.add_mul] at hbig
   have hrun:=fV (P:=P) hT t hko b (i*sz+off) ty fz us uv hw hcs2 (by omega) hfz.1 c2
   refine ⟨_,⟨undef,_,_,.inr ⟨rfl,rfl⟩,HStep.set h hcs (by simp) (by simp) hkk hw (us':=(us.toList.take (i*sz+off)++uv.cells.toList++us.toList.drop (i*sz+off+(T t).size)).toArray) ?_ (fun l e=>by cases e) ⟨?_,?_,?_,?_⟩,.any _⟩,hrun⟩
   ·simp;omega
   ·intro u hu
    simp only [List.mem_append] at hu
    rcases hu with (hu|hu)|hu
    ·exact hone u (List.mem_of_mem_take hu)
    ·exact c2 u hu
    ·exact hone u (List.mem_of_mem_drop hu)
   ·intro r hr'
    rcases List.mem_or_eq_of_mem_set hr' with hr'|rfl
    ·exact hrl r hr'
    ·rw [qD _ _ _ (by omega),hrlen]
   ·rw [List.length_set];simp;omega
   ·intro i' r hi' j c u hj hu
    have hu':(us.toList.take (i*sz+off)++uv.cells.toList++us.toList.drop (i*sz+off+uv.cells.toList.length))[i'*sz+j]?=some u:=by
     rw [Array.length_toList,hcs2];simpa using hu
    rw [aH _ _ _ (by simp;omega),c1,hcl] at hu'
    rcases ak hi' with ⟨e,e',_⟩|⟨hne,h2⟩
    ·subst e;subst e'
     rw [yi _ _ _ (by omega),aH _ _ _ (by omega)] at hj
     split at hj
     ·rename_i hjj
      rw [if_pos (by omega)] at hu'
      have e2:i'*sz+j-(i'*sz+off)=j-off:=by omega
      rw [e2] at hu'
      have:=c3 (j-off) (.d c) u (by rw [hdm,List.getElem?_map,hj];rfl) hu'
      cases this with|d _ _ h=>exact h
     ·rename_i hjj
      rw [if_neg (by omega)] at hu'
      exact hr i' _ hrow j c u hj (by simpa using hu')
    ·have hjl:j<sz:=by rw [←hrl r (List.mem_of_getElem? h2)];exact (List.getElem?_eq_some_iff.1 hj).1
     have hout:¬ (i*sz+off≤i'*sz+j∧i'*sz+j<i*sz+off+ds.length):=by
      intro ⟨a1,a2⟩
      rcases Nat.lt_or_gt_of_ne hne with hlt|hgt
      ·have:(i'+1)*sz≤i*sz:=Nat.mul_le_mul_right _ hlt
       rw [Nat.add_mul] at this;omega
      ·have:(i+1)*sz≤i'*sz:=Nat.mul_le_mul_right _ hgt
       rw [Nat.add_mul] at this;omega
     rw [if_neg hout] at hu'
     exact hr i' r h2 j c u hj (by simpa using hu')
  ·intro h;exact h.elim
 ·intro h;exact h.elim
def AN:AV→Option Int
 |.d (.int .u8 n)=>some n
 |_=>none
def Iv:TK→Bool
 |.int .u8=>true
 |_=>false
def jw (ti:TI) (x v:AV) (hp:List ABlk):MR:=
 match x with
 | .rp k sz i off=>
   (match hp[k]? with
   | some (.bytes l)=>
     (match AN v with
     |some n=>⟨sz=1∧off=0∧i<l.length∧0≤n∧n<256∧Iv ti.kind=true,.any,hp.set k (.bytes (l.set i (UInt8.ofNat n.toNat)))⟩
     |none=>⟨False,.any,hp⟩)
   |_=>mz ti x v hp)
 |_=>mz ti x v hp
theorem GG {v:AV} {n:Int} (h:AN v=some n):v=.d (.int .u8 n):=by
 unfold AN at h
 split at h
 ·injection h with h;subst h;rfl
 ·cases h
theorem JG {k:TK} (h:Iv k=true):k=.int .u8:=by
 unfold Iv at h
 split at h
 ·rfl
 ·cases h
theorem si {T:TypeId→TI} (hT:an P T) (h:RepH E ρ hp w) (t:TypeId) (x v:AV) (ux uv:Value) (hx:RepV ρ (okB E ρ hp w) w x ux) (hv:RepV ρ (okB E ρ hp w) w v uv) (hk:(jw (T t) x v hp).ok) :
  ∃ w',jV E ρ hp w (.ok .skip w') (jw (T t) x v hp).v (jw (T t) x v hp).hp∧(Instr.storeAt t ux uv).run P w=.ok () w':=by
 revert hk
 unfold jw
 split
 ·rename_i k sz i off
  split
  ·rename_i l hcs
   split
   ·rename_i n hn
    intro ⟨h0,h00,hi,hn0,hn1,hu8⟩
    subst h0;subst h00
    have hv':=GG hn
    subst hv'
    have hk8:=JG hu8
    have hko:(T t).kind≠.other:=by rw [hk8];simp
    have hag:(T t).agg=false:=by simp [TI.agg,hk8]
    cases hv with|d _ _ hv=>cases hv with|int _ _=>
    cases hx with|rp _ _ _ _ b m hkk=>
    obtain ⟨q1,us,ty,fz,hw,hm,hfz,hone,hrl,hsz,hr⟩:=h.blk k _ b m hcs hkk (by simp)
    have hil:i<us.size:=by simp at hsz;omega
    obtain ⟨ii,z,hi1,hi2,hi3,hi4,hi5⟩:=(aE hT hko).info
    have hs1:(T t).size=1:=by
     rw [hag] at hi5
     simp only [Bool.false_eq_true,if_false] at hi5
     have:=congrArg List.length hi5
     simp only [List.length_map,List.length_cons,List.length_nil] at this
     rw [←(aE hT hko).zl];omega
    have hrun:=fV (P:=P) hT t hko b (i*1+0) ty fz us (.int .u8 n) hw (by rw [hs1];rfl) (by omega) hfz.1 (by intro x hx;simp [Value.cells] at hx;subst hx;rfl)
    have hw8:((UInt8.ofNat n.toNat).toNat:Int)=n:=by
     have:n.toNat%256=n.toNat:=Nat.mod_eq_of_lt (by omega)
     simp [this];omega
    have hmap:(l.set i (UInt8.ofNat n.toNat)).map aC=(l.map aC).set i (aC (UInt8.ofNat n.toNat)):=by rw [List.map_set]
    refine ⟨_,⟨undef,_,_,.inr ⟨rfl,rfl⟩,HStep.set h hcs (by simp) (by simp) hkk hw (us':=(us.toList.take (i*1+0)++(Value.int .u8 n).cells.toList++us.toList.drop (i*1+0+(T t).size)).toArray) ?_ (fun l e=>⟨_,rfl⟩) ⟨?_,?_,?_,?_⟩,.any _⟩,hrun⟩
    ·simp [Value.cells,hs1];omega
    ·intro u hu
     simp only [List.mem_append] at hu
     rcases hu with (hu|hu)|hu
     ·exact hone u (List.mem_of_mem_take hu)
     ·simp [Value.cells] at hu;subst hu;rfl
     ·exact hone u (List.mem_of_mem_drop hu)
    ·intro r hr';obtain ⟨b,_,rfl⟩:=List.mem_map.1 hr';rfl
    ·simp [Value.cells,hs1] at hsz ⊢;omega
    ·intro i' r hi' j c u hj hu
     rw [hmap] at hi'
     have hu':(us.toList.take (i*1+0)++(Value.int .u8 n).cells.toList++us.toList.drop (i*1+0+(Value.int .u8 n).cells.toList.length))[i'*1+j]?=some u:=by
      have:(Value.int .u8 n).cells.toList.length=(T t).size:=by rw [hs1];rfl
      rw [this];simpa using hu
     rw [aH _ _ _ (by simp [Value.cells];omega)] at hu'
     rcases ak hi' with ⟨e,e',_⟩|⟨hne,h2⟩
     ·subst e;subst e'
      match j,hj with
      | 0,hj=>
        simp only [aC,List.getElem?_cons_zero,Option.some.injEq] at hj;subst hj
        rw [if_pos (by simp [Value.cells])] at hu'
        simp [Value.cells] at hu'
        subst hu'
        rw [hw8]
        exact .int .u8 n
     ·have hj0:j=0:=by
       have:r.length=1:=hrl r (List.mem_of_getElem? h2)
       have:=(List.getElem?_eq_some_iff.1 hj).1
       omega
      subst hj0
      rw [if_neg (by simp [Value.cells];omega)] at hu'
      exact hr i' r h2 0 c u hj (by simpa using hu')
   ·intro h;exact h.elim
  ·intro hk;exact nn hT h t _ v ux uv hx hv hk
 ·intro hk;exact nn hT h t _ v ux uv hx hv hk
end
def srcRows (hp:List ABlk) (sz:Nat):AV→Prop×List (List DV)
 |.d (.sl sz' rows)=>(sz'=sz,rows)
 |.d (.str l)=>(sz=1,l.map aC)
 |.d (.sc (.slice none 0 0))=>(True,[])
 | .osl k sz' off n=>
   match hp[k]? with
   |some (.rows sz'' rs)=>(sz'=sz∧sz''=sz∧off+n≤rs.length,(rs.drop off).take n)
   |some (.full sz'' rs)=>(sz'=sz∧sz''=sz∧off+n≤rs.length,(rs.drop off).take n)
   |some (.bytes l)=>(sz'=sz∧1=sz∧off+n≤(l.map aC).length,((l.map aC).drop off).take n)
   |_=>(False,[])
 |_=>(False,[])
def wJ:TK→Prop
 |.slice _=>True
 |.str=>True
 |_=>False
def sQ (te:TI) (tk:TK) (hp:List ABlk) (x:AV):AV→MR
 | .d (.sc (.slice none 0 0))=>
   ⟨(srcRows hp te.size x).1∧wJ tk∧0<te.size∧0<te.bytes∧(te.kind matches .other)=false∧(srcRows hp te.size x).2.length*te.bytes≤140737488355328,
    .osl hp.length te.size 0 (srcRows hp te.size x).2.length,hp++[.rows te.size (srcRows hp te.size x).2]⟩
 | .osl k sz off n=>
   (match hp[k]? with
   | some (.rows sz' rs)=>
     ⟨sz=te.size∧sz'=te.size∧off=0∧n≤rs.length∧(srcRows hp te.size x).1∧wJ tk∧0<te.size∧0<te.bytes∧(te.kind matches .other)=false∧(n+(srcRows hp te.size x).2.length)*te.bytes≤140737488355328,
      .osl hp.length te.size 0 (n+(srcRows hp te.size x).2.length),hp.set k .dead++[.rows te.size (rs.take n++(srcRows hp te.size x).2)]⟩
   |_=>⟨False,.any,hp⟩)
 |_=>⟨False,.any,hp⟩
def jq (T:TypeId→TI) (t t':TypeId) (s x:AV) (hp:List ABlk):MR:=
 match (T t).kind with
 |.slice e=>sQ (T e) (T t').kind hp x s
 |_=>⟨False,.any,hp⟩
section
variable {P:Program} {E:Ent} {ρ ρ' ρ2:List (Option (Nat×Nat))} {hp hp':List ABlk} {w w':World} {ok:Nat→Prop}
theorem dI (sz:Nat) (A:Option Addr) (W:World):(Builtin.firstCells sz 0 (.slice A 0 0)).run P W=.ok #[] W:=by
 cases A<;>simp [Builtin.firstCells,loadCells,loadCellsFrom]
def Mq (P:Program) (ok:Nat→Prop) (w:World) (sz:Nat) (rows:List (List DV)) (u:Value) (news:List Value):Prop:=
 news.length=rows.length*sz∧(∀ v,v∈news→v.oneCell'=true)∧(∀ r,r∈rows→r.length=sz)∧
 (∀ (i:Nat) (r:List DV),rows[i]?=some r→∀ (j:Nat) (c:DV) (v:Value),r[j]?=some c→news[i*sz+j]?=some v→RepD ok w c v)∧
 ∀ W:World,W.heap=w.heap→(Builtin.lenOf u).run P W=.ok rows.length W∧(Builtin.firstCells sz rows.length u).run P W=.ok news.toArray W
theorem f0 {w W:World} (h:W.heap=w.heap) (a:Addr):W.cell? a=w.cell? a:=by simp [World.cell?,h]
theorem nS (hB:nb ρ ok w hp) {sz:Nat} (hpos:0<sz) {x:AV} {u:Value} (hx:RepV ρ ok w x u) (h:(srcRows hp sz x).1) :
  ∃ news,Mq P ok w sz (srcRows hp sz x).2 u news:=by
 revert h
 unfold srcRows
 split
 ·rename_i sz' rows
  intro h0
  simp only at h0
  subst h0
  cases hx with|d _ _ hx=>cases hx with|sl _ _ A cap f hcap hsz hc hr=>
  by_cases h0:rows.length=0
  ·have:rows=[]:=List.eq_nil_of_length_eq_zero h0
   subst this
   refine ⟨[],by simp,by simp,by simp,by simp,fun W hW=>⟨by simp [Builtin.lenOf],?_⟩⟩
   cases A<;>simp [Builtin.firstCells,loadCells,loadCellsFrom]
  ·obtain ⟨b,o,rfl,hb,hcell⟩:=hc (by omega)
   have hq:∀ q,q<rows.length*sz'→∃ r,rows[q/sz']?=some r∧q%sz'<r.length:=by
    intro q hq
    have hd:q/sz'<rows.length:=by rw [Nat.div_lt_iff_lt_mul hpos];exact hq
    refine ⟨rows[q/sz'],List.getElem?_eq_getElem hd,?_⟩
    rw [hsz _ (List.getElem_mem hd)]
    exact Nat.mod_lt _ hpos
   refine ⟨(List.range (rows.length*sz')).map fun q=>f (q/sz') (q%sz'),by simp,fun v hv=>?_,hsz,fun i r hi j c v hj hv=>?_,fun W hW=>⟨by simp [Builtin.lenOf],?_⟩⟩
   ·obtain ⟨q,hq1,rfl⟩:=List.mem_map.1 hv
    obtain ⟨r,hr1,hr2⟩:=hq q (by simpa using hq1)
    exact (hr _ r hr1 _ _ (List.getElem?_eq_getElem hr2)).one
   ·have hjl:j<sz':=by rw [←hsz r (List.mem_of_getElem? hi)];exact (List.getElem?_eq_some_iff.1 hj).1
    rw [List.getElem?_map] at hv
    obtain ⟨q,hq1,rfl⟩:=Option.map_eq_some_iff.1 hv
    obtain ⟨hq2,hq3⟩:=List.getElem?_eq_some_iff.1 hq1
    simp at hq3
    subst hq3
    have e1:(i*sz'+j)/sz'=i:=by
     rw [Nat.add_comm,Nat.add_mul_div_right _ _ hpos,Nat.div_eq_of_lt hjl,Nat.zero_add]
    have e2:(i*sz'+j)%sz'=j:=by
     rw [Nat.add_comm,Nat.add_mul_mod_self_right,Nat.mod_eq_of_lt hjl]
    rw [e1,e2]
    exact hr i r hi j c hj
   ·simp only [Builtin.firstCells]
    exact run_loadCells W ⟨b,o,none⟩ (rows.length*sz') (fun q=>f (q/sz') (q%sz')) fun q hq1=>by
     obtain ⟨r,hr1,hr2⟩:=hq q hq1
     rw [Addr.add_lit,f0 hW]
     have:=hcell _ r hr1 _ _ (List.getElem?_eq_getElem hr2)
     rwa [show q/sz'*sz'+q%sz'=q from by rw [Nat.mul_comm];exact Nat.div_add_mod q sz'] at this
 ·rename_i l
  intro h0
  simp only at h0
  subst h0
  cases hx with|d _ _ hx=>cases hx with|str _=>
  refine ⟨l.map fun b=>.int .u8 b.toNat,by simp,fun v hv=>?_,fun r hr=>?_,fun i r hi j c v hj hv=>?_,fun W hW=>⟨by simp [Builtin.lenOf,aG,jD],?_⟩⟩
  ·obtain ⟨b,_,rfl⟩:=List.mem_map.1 hv;rfl
  ·obtain ⟨b,_,rfl⟩:=List.mem_map.1 hr;rfl
  ·rw [List.getElem?_map] at hi
   obtain ⟨b,hb,rfl⟩:=Option.map_eq_some_iff.1 hi
   match j with
   | 0=>
     simp [aC] at hj
     subst hj
     rw [List.getElem?_map] at hv
     simp [hb] at hv
     subst hv
     exact .int _ _
   |j+1=>simp [aC] at hj
  ·have:(⟨l.toArray⟩:ByteArray).extract 0 l.length=⟨l.toArray⟩:=by rw [gU];simp
   simp [Builtin.firstCells,aG,this]
 ·cases hx with|d _ _ hx=>
  obtain ⟨A,rfl⟩:=gC hx
  intro _
  exact ⟨[],by simp,by simp,by simp,by simp,fun W hW=>⟨by simp [Builtin.lenOf],by have:=dI (P:=P) sz A W;simpa using this⟩⟩
 ·rename_i k sz' off n
  split
  ·rename_i sz'' rs hcs
   intro ⟨h0,h1,hfit⟩
   subst h0;subst h1
   cases hx with
   | oslnil _ _ A hk=>
     refine ⟨[],by simp,by simp,by simp,by simp,fun W hW=>⟨by simp [Builtin.lenOf],by have:=dI (P:=P) sz'' A W;simpa using this⟩⟩
   | osl _ _ _ _ b m cap hk hm hn=>
     obtain ⟨us,ty,fz,hw,hum,hone,hrl,hsz,hr⟩:=hB.1 k _ b m hcs hk (by simp)
     have hlen:((rs.drop off).take n).length=n:=aB _ _ _ hfit
     have hbig:off*sz''+n*sz''≤us.size:=by
      have:(off+n)*sz''≤rs.length*sz'':=Nat.mul_le_mul_right _ hfit
      rw [Nat.add_mul] at this;omega
     have hnl:((us.toList.drop (off*sz'')).take (n*sz'')).length=n*sz'':=aB _ _ _ (by simpa using hbig)
     refine ⟨(us.toList.drop (off*sz'')).take (n*sz''),by rw [hnl,hlen],fun v hv=>hone v (ef hv),fun r hr'=>hrl r (ef hr'),fun i r hi j c v hj hv=>?_,fun W hW=>⟨by simp [Builtin.lenOf,hlen],?_⟩⟩
     ·have a1:=(aj _ _ _ _ _ hi).1
      have a2:=(aj _ _ _ _ _ hv).1
      refine hr (off+i) r a1 j c v hj ?_
      rw [Nat.add_mul,Nat.add_assoc]
      simpa using a2
     ·rw [hlen]
      simp only [Builtin.firstCells]
      have:=ko (P:=P) W b (off*sz'') ((us.toList.drop (off*sz'')).take (n*sz'')) fun j v hj=>by
       have:=(aj _ _ _ _ _ hj).1
       rw [f0 hW,aL hw]
       simpa using this
      rwa [hnl] at this
  ·rename_i sz'' rs hcs
   intro ⟨h0,h1,hfit⟩
   subst h0;subst h1
   cases hx with
   | oslnil _ _ A hk=>
     refine ⟨[],by simp,by simp,by simp,by simp,fun W hW=>⟨by simp [Builtin.lenOf],by have:=dI (P:=P) sz'' A W;simpa using this⟩⟩
   | osl _ _ _ _ b m cap hk hm hn=>
     obtain ⟨us,ty,fz,hw,hum,hone,hrl,hsz,hr⟩:=hB.1 k _ b m hcs hk (by simp)
     have hlen:((rs.drop off).take n).length=n:=aB _ _ _ hfit
     have hbig:off*sz''+n*sz''≤us.size:=by
      have:(off+n)*sz''≤rs.length*sz'':=Nat.mul_le_mul_right _ hfit
      rw [Nat.add_mul] at this;omega
     have hnl:((us.toList.drop (off*sz'')).take (n*sz'')).length=n*sz'':=aB _ _ _ (by simpa using hbig)
     refine ⟨(us.toList.drop (off*sz'')).take (n*sz''),by rw [hnl,hlen],fun v hv=>hone v (ef hv),fun r hr'=>hrl r (ef hr'),fun i r hi j c v hj hv=>?_,fun W hW=>⟨by simp [Builtin.lenOf,hlen],?_⟩⟩
     ·have a1:=(aj _ _ _ _ _ hi).1
      have a2:=(aj _ _ _ _ _ hv).1
      refine hr (off+i) r a1 j c v hj ?_
      rw [Nat.add_mul,Nat.add_assoc]
      simpa using a2
     ·rw [hlen]
      simp only [Builtin.firstCells]
      have:=ko (P:=P) W b (off*sz'') ((us.toList.drop (off*sz'')).take (n*sz'')) fun j v hj=>by
       have:=(aj _ _ _ _ _ hj).1
       rw [f0 hW,aL hw]
       simpa using this
      rwa [hnl] at this
  ·rename_i l hcs
   intro ⟨h0,h1,hfit⟩
   subst h0
   generalize hrs:l.map aC=rs at *
   cases hx with
   | oslnil _ _ A hk=>
     refine ⟨[],by simp,by simp,by simp,by simp,fun W hW=>⟨by simp [Builtin.lenOf],by have:=dI (P:=P) sz' A W;simpa using this⟩⟩
   | osl _ _ _ _ b m cap hk hm hn=>
     obtain ⟨us,ty,fz,hw,hum,hone,hrl,hsz,hr⟩:=hB.1 k _ b m hcs hk (by simp)
     rw [hrs] at hsz hr hrl;rw [h1] at hsz hr hrl
     have hlen:((rs.drop off).take n).length=n:=aB _ _ _ hfit
     have hbig:off*sz'+n*sz'≤us.size:=by
      have:(off+n)*sz'≤rs.length*sz':=Nat.mul_le_mul_right _ hfit
      rw [Nat.add_mul] at this;omega
     have hnl:((us.toList.drop (off*sz')).take (n*sz')).length=n*sz':=aB _ _ _ (by simpa using hbig)
     refine ⟨(us.toList.drop (off*sz')).take (n*sz'),by rw [hnl,hlen],fun v hv=>hone v (ef hv),fun r hr'=>hrl r (ef hr'),fun i r hi j c v hj hv=>?_,fun W hW=>⟨by simp [Builtin.lenOf,hlen],?_⟩⟩
     ·have a1:=(aj _ _ _ _ _ hi).1
      have a2:=(aj _ _ _ _ _ hv).1
      refine hr (off+i) r a1 j c v hj ?_
      rw [Nat.add_mul,Nat.add_assoc]
      simpa using a2
     ·rw [hlen]
      simp only [Builtin.firstCells]
      have:=ko (P:=P) W b (off*sz') ((us.toList.drop (off*sz')).take (n*sz')) fun j v hj=>by
       have:=(aj _ _ _ _ _ hj).1
       rw [f0 hW,aL hw]
       simpa using this
      rwa [hnl] at this
  ·intro h;exact h.elim
 ·intro h;exact h.elim
theorem HStep.move (h:RepH E ρ hp w) {k:Nat} {x:ABlk} (hx:hp[k]?=some x) (hd:x≠.dead) {p:Option (Nat×Nat)} (hk:ρ[k]?=some p) :
  HStep E ρ hp w (ρ++[p]) (hp.set k .dead++[x]) w:=by
 have hkl:k<hp.length:=(List.getElem?_eq_some_iff.1 hx).1
 have hset:(hp.set k .dead).length=hp.length:=by simp
 have hup:∀ (k:Nat) (q:Option (Nat×Nat)),ρ[k]?=some q→(ρ++[p])[k]?=some q:=fun k q hk=>get_append_old hk
 -- who is live now was so before
 have back:∀ (j:Nat) (y:ABlk) (q:Option (Nat×Nat)),(hp.set k .dead++[x])[j]?=some y→y≠.dead→(ρ++[p])[j]?=some q→
   (j≠k∧j<hp.length∧hp[j]?=some y∧ρ[j]?=some q)∨(j=hp.length∧y=x∧q=p):=by
  intro j y q hy hyd hj
  rcases aA hy with ⟨h1,h2⟩|⟨h1,h2⟩
  ·rcases ak h2 with ⟨_,e,_⟩|⟨hne,h3⟩
   ·exact absurd e hyd
   ·rcases aA hj with ⟨_,h4⟩|⟨h4,_⟩
    ·exact .inl ⟨hne,by rw [hset] at h1;exact h1,h3,h4⟩
    ·have:=h.len;rw [hset] at h1;omega
  ·rcases aA hj with ⟨h3,_⟩|⟨_,h4⟩
   ·have:=h.len;rw [hset] at h1;omega
   ·exact .inr ⟨by rw [h1,hset],h2,h4⟩
 have hlive:∀ b,eE (ρ++[p]) (hp.set k .dead++[x]) b→eE ρ hp b:=by
  intro b ⟨j,y,m,hy,hyd,hj⟩
  rcases back j y _ hy hyd hj with ⟨_,_,h3,h4⟩|⟨_,_,h4⟩
  ·exact ⟨j,y,m,h3,hyd,h4⟩
  ·exact ⟨k,x,m,hx,hd,by rw [hk,h4]⟩
 have hok:∀ b,okB E ρ hp w b→okB E (ρ++[p]) (hp.set k .dead++[x]) w b∧w.heap[b]?=w.heap[b]?:=fun b ⟨h1,h2,h3⟩=>⟨⟨h1,h2,fun hl=>h3 (hlive b hl)⟩,rfl⟩
 refine ⟨⟨by simp [h.len],fun j y b m hy hj hyd=>?_,fun j y hy hj=>?_,fun j j' y y' b m m' hy hy' hyd hyd' hj hj'=>?_,h.fr⟩,hup,hok⟩
 ·rcases back j y _ hy hyd hj with ⟨_,_,h3,h4⟩|⟨_,e,h4⟩
  ·obtain ⟨q1,o,q2,q3⟩:=h.obj j y b m h3 h4 hyd
   exact ⟨q1,o,q2,q3.mono hup hok⟩
  ·subst e
   obtain ⟨q1,o,q2,q3⟩:=h.obj k y b m hx (by rw [hk,h4]) hd
   exact ⟨q1,o,q2,q3.mono hup hok⟩
 ·by_cases hyd:y=.dead
  ·exact .inl hyd
  ·rcases back j y _ hy hyd hj with ⟨_,_,h3,h4⟩|⟨_,e,h4⟩
   ·exact h.nil j y h3 h4
   ·subst e;exact h.nil k y hx (by rw [hk,h4])
 ·rcases back j y _ hy hyd hj with ⟨a1,a2,a3,a4⟩|⟨a1,a2,a3⟩
  ·rcases back j' y' _ hy' hyd' hj' with ⟨b1,b2,b3,b4⟩|⟨b1,b2,b3⟩
   ·exact h.inj j j' y y' b m m' a3 b3 hyd hyd' a4 b4
   ·exact absurd (h.inj j k y x b m m' a3 hx hyd hd a4 (by rw [hk,b3])) a1
  ·rcases back j' y' _ hy' hyd' hj' with ⟨b1,b2,b3,b4⟩|⟨b1,b2,b3⟩
   ·exact absurd (h.inj j' k y' x b m' m b3 hx hyd' hd b4 (by rw [hk,a3])) b1
   ·omega
def zL (P:Program) (t:TypeId):Prop:=∃ d,P.underlying t=some d∧∀ k,d≠.int k
theorem eM {T:TypeId→TI} (hT:an P T) {t:TypeId} (h:wJ (T t).kind):zL P t:=by
 cases e:(T t).kind with
 |slice x=>exact ⟨_,aw hT e,fun k hk=>by cases hk⟩
 |str=>exact ⟨_,fa hT e,fun k hk=>by cases hk⟩
 |_=>rw [e] at h;exact h.elim
theorem iL (w:World) (t xt ty e:TypeId) (i:TypeInfo) (ht:P.underlying t=some (.slice e)) (hi:P.info? e=some i) (hxt:zL P xt)
  (g o sLen sCap:Nat) (cur:Array Value) (tt:TypeId) (fz:Nat×Nat) (hg:w.heap[g]?=some (.cells cur tt fz)) (hfz:rT cur fz) (x:Value) (m:Nat) (news:List Value)
  (hlen:(Builtin.lenOf x).run P w=.ok m w) (hf:(Builtin.firstCells i.size m x).run P w=.ok news.toArray w) (h1:∀ u∈news,u.oneCell'=true)
  (hroom:sLen+m≤sCap) (hfit:o+sLen*i.size+news.length≤cur.size) :
  (Builtin.append_ #[t,xt] ty #[.slice (some ⟨g,o,none⟩) sLen sCap,x]).run P w =
   .ok (.slice (some ⟨g,o,none⟩) (sLen+m) sCap) (setB w g (.cells (cur.toList.take (o+sLen*i.size)++news++cur.toList.drop (o+sLen*i.size+news.length)).toArray tt fz)):=by
 obtain ⟨d,hd,hdn⟩:=hxt
 have hst:=ch (P:=P) g (o+sLen*i.size) tt fz news 0 cur w hg (by simpa using hfit) hfz h1
 simp only [Nat.add_zero] at hst
 have hm:(match d with|.int _=>true|_=>false)=false:=by cases d<;>first|rfl|exact absurd rfl (hdn _)
 simp [Builtin.append_,run_underlying ht,run_underlying hd,hm,sizeOf,typeInfo,hi,hlen,hroom,hf,Addr.add_lit,hst]
theorem fB (w:World) (t xt ty e:TypeId) (i:TypeInfo) (z:Value) (ht:P.underlying t=some (.slice e)) (hi:P.info? e=some i) (hz:i.zero=some z) (hxt:zL P xt) (hby:0<i.bytes)
  (base:Option Addr) (sLen sCap:Nat) (olds:List Value) (holds:∀ W:World,W.heap=w.heap→(Builtin.firstCells i.size sLen (.slice base sLen sCap)).run P W=.ok olds.toArray W) (x:Value) (m:Nat) (news:List Value)
  (hsrc:∀ W:World,W.heap=w.heap→(Builtin.lenOf x).run P W=.ok m W∧(Builtin.firstCells i.size m x).run P W=.ok news.toArray W)
  (hg:sCap<sLen+m) (hb:(sLen+m)*i.bytes≤140737488355328) :
  (Builtin.append_ #[t,xt] ty #[.slice base sLen sCap,x]).run P w =
   .ok (.slice (some ⟨w.heap.size,0,none⟩) (sLen+m) (grownCap w (sLen+m) sCap e))
    (w.drew.alloc (.cells (olds.toArray++news.toArray++Builtin.zeroCells z.cells (grownCap w (sLen+m) sCap e-(sLen+m))) e)):=by
 obtain ⟨d,hd,hdn⟩:=hxt
 have hn:¬ (sLen+m≤sCap):=by omega
 have hfit:=growslice_fits (old:=sCap) hg hb
 have hfit':¬ (281474976710656<Builtin.nextslicecap (sLen+m) sCap*i.bytes):=by omega
 have hb0:i.bytes≠0:=by omega
 have e1:=(hsrc w rfl).1
 have e2:=(hsrc w.drew rfl).2
 have e3:=holds w.drew rfl
 have hm:(match d with|.int _=>true|_=>false)=false:=by cases d<;>first|rfl|exact absurd rfl (hdn _)
 simp [Builtin.append_,run_underlying ht,run_underlying hd,hm,sizeOf,typeInfo,hi,hz,e1,hn,hfit',hb0,zeroValue,Question.forced,e2,e3,newRow,grownCap,←Array.append_assoc]
theorem fE {T:TypeId→TI} (hT:an P T) {e:TypeId} (hk:(T e).kind≠.other) {z:Value} (hz:z.cells.toList=(T e).zero.map DV.val) (n:Nat) (u:Value) (hu:u∈(Builtin.zeroCells z.cells n).toList):u.oneCell'=true:=by
 have hpos:∀ i:Nat,i<n*z.cells.size→i%z.cells.size<z.cells.size:=fun i hi=>Nat.mod_lt _ (by
  rcases Nat.eq_zero_or_pos z.cells.size with h|h
  ·rw [h] at hi;omega
  ·exact h)
 simp only [Builtin.zeroCells,Array.toList_map,List.mem_map] at hu
 obtain ⟨i,hi,rfl⟩:=hu
 have hi':i<n*z.cells.size:=by simpa using hi
 have hm:=hpos i hi'
 have:z.cells[i%z.cells.size]!∈z.cells.toList:=by
  rw [getElem!_pos z.cells _ hm];exact Array.getElem_mem_toList hm
 rw [hz] at this
 exact jc hT hk _ this
theorem k6 {ok:Nat→Prop} {us spare:Array Value} {sz:Nat} {rs src:List (List DV)} {olds news:List Value} (hlo:olds.length=rs.length*sz) (hlr:∀ r,r∈rs→r.length=sz)
  (ho1:∀ v,v∈olds→v.oneCell'=true) (hor:∀ (i:Nat) (r:List DV),rs[i]?=some r→∀ (j:Nat) (c:DV) (v:Value),r[j]?=some c→olds[i*sz+j]?=some v→RepD ok w c v)
  (hln:news.length=src.length*sz) (hls:∀ r,r∈src→r.length=sz) (hn1:∀ v,v∈news→v.oneCell'=true)
  (hnr:∀ (i:Nat) (r:List DV),src[i]?=some r→∀ (j:Nat) (c:DV) (v:Value),r[j]?=some c→news[i*sz+j]?=some v→RepD ok w c v)
  (hs1:∀ v,v∈spare.toList→v.oneCell'=true) (hus:us.toList=olds++news++spare.toList):dy ρ ok w us (.rows sz (rs++src)):=by
 refine ⟨fun u hu=>?_,fun r hr=>?_,?_,fun i r hi j c u hj hu=>?_⟩
 ·rw [hus] at hu
  simp only [List.mem_append] at hu
  rcases hu with (hu|hu)|hu
  ·exact ho1 u hu
  ·exact hn1 u hu
  ·exact hs1 u hu
 ·rcases List.mem_append.1 hr with hr|hr
  ·exact hlr r hr
  ·exact hls r hr
 ·rw [←Array.length_toList,hus]
  simp only [List.length_append,hlo,hln,Nat.add_mul]
  omega
 ·have hjl:j<sz:=by
   have hr:r∈rs++src:=List.mem_of_getElem? hi
   have:r.length=sz:=by
    rcases List.mem_append.1 hr with hr|hr
    ·exact hlr r hr
    ·exact hls r hr
   rw [←this];exact (List.getElem?_eq_some_iff.1 hj).1
  rw [←Array.getElem?_toList,hus,List.append_assoc] at hu
  by_cases hlt:i<rs.length
  ·rw [List.getElem?_append_left hlt] at hi
   have:i*sz+j<olds.length:=by
    rw [hlo]
    have:(i+1)*sz≤rs.length*sz:=Nat.mul_le_mul_right _ hlt
    rw [Nat.add_mul] at this;omega
   rw [List.getElem?_append_left this] at hu
   exact hor i r hi j c u hj hu
  ·rw [List.getElem?_append_right (by omega)] at hi
   have hil:i-rs.length<src.length:=(List.getElem?_eq_some_iff.1 hi).1
   have e1:i*sz+j-olds.length=(i-rs.length)*sz+j:=by
    rw [hlo,Nat.sub_mul]
    have:rs.length*sz≤i*sz:=Nat.mul_le_mul_right _ (by omega)
    omega
   have e2:(i-rs.length)*sz+j<news.length:=by
    rw [hln]
    have:(i-rs.length+1)*sz≤src.length*sz:=Nat.mul_le_mul_right _ hil
    rw [Nat.add_mul] at this;omega
   have:olds.length≤i*sz+j:=by
    rw [hlo]
    have:rs.length*sz≤i*sz:=Nat.mul_le_mul_right _ (by omega)
    omega
   rw [List.getElem?_append_right this,e1,List.getElem?_append_left e2] at hu
   exact hnr _ r hi j c u hj hu
theorem wv {T:TypeId→TI} (hT:an P T) (h:RepH E ρ hp w) (t xt ty e:TypeId) (ht:P.underlying t=some (.slice e)) (s x:AV) (us ux:Value)
  (hs:RepV ρ (okB E ρ hp w) w s us) (hx:RepV ρ (okB E ρ hp w) w x ux) (hk:(sQ (T e) (T xt).kind hp x s).ok) :
  ∃ u w',jV E ρ hp w (.ok (.value u) w') (sQ (T e) (T xt).kind hp x s).v (sQ (T e) (T xt).kind hp x s).hp∧(Builtin.append_ #[t,xt] ty #[us,ux]).run P w=.ok u w':=by
 revert hk
 unfold sQ
 split
 ·intro ⟨hsrc,hty,hpos,hby,hko,hbig⟩
  have hko:=am hko
  cases hs with|d _ _ hs=>
  obtain ⟨A,rfl⟩:=gC hs
  obtain ⟨i,z,hi1,hi2,hi3,hi4,hi5⟩:=(aE hT hko).info
  obtain ⟨z',hz1,hz2,_⟩:=dS (P:=P) hT hko
  have hzz:z'=z:=by
   have:=hz1 w
   simp [zeroValue,typeInfo,hi1,hi4] at this
   exact this.symm
  subst hzz
  obtain ⟨news,n1,n2,n3,n4,n5⟩:=nS (P:=P) h.blks hpos hx hsrc
  generalize hrows:(srcRows hp (T e).size x).2=src at *
  by_cases h0:src.length=0
  ·have:src=[]:=List.eq_nil_of_length_eq_zero h0
   subst this
   have hst:=HStep.nilRow h (T e).size
   refine ⟨.slice A 0 0,w,⟨_,w,_,.inl rfl,hst,?_⟩,?_⟩
   ·have:(ρ++[none])[hp.length]?=some none:=by rw [←h.len];simp
    exact .oslnil _ _ A this
   ·have e1:=(n5 w rfl).1
    have e2:=(n5 w rfl).2
    obtain ⟨d,hd,hdn⟩:=eM hT hty
    have hm:(match d with|.int _=>true|_=>false)=false:=by cases d<;>first|rfl|exact absurd rfl (hdn _)
    simp only [List.length_nil] at e1 e2
    have hnn:news=[]:=List.eq_nil_of_length_eq_zero (by simpa using n1)
    subst hnn
    cases A<;>simp [Builtin.append_,run_underlying ht,run_underlying hd,hm,sizeOf,typeInfo,hi1,hi2,e1,e2,storeCells]
  ·have hrun:=fB (P:=P) w t xt ty e i z' ht hi1 hi4 (eM hT hty) (by rw [hi3];exact hby) A 0 0 [] (fun W _=>by have:=dI (P:=P) i.size A W;simpa using this) ux src.length news
    (fun W hW=>by rw [hi2];exact n5 W hW) (by omega) (by rw [Nat.zero_add,hi3];exact hbig)
   rw [Nat.zero_add] at hrun
   have hd0:Below w.heap.size w w.drew:=⟨rfl,rfl,rfl,Nat.le_refl _,fun _ _=>rfl⟩
   have hge:=grownCap_ge w src.length 0 e
   have hst0:=HStep.below h hd0
   have hzs:z'.cells.size=(T e).size:=by rw [←Array.length_toList,hz2,List.length_map,(aE hT hko).zl]
   have hst1:=HStep.push hst0.heap (([]:List Value).toArray++news.toArray++Builtin.zeroCells z'.cells (grownCap w src.length 0 e-src.length)) e (0,0) (.rows (T e).size src) (qB _) (mt _ _)
    (by
     have:=k6 (ρ:=ρ) (w:=w.drew) (ok:=okB E ρ hp w.drew) (us:=([]:List Value).toArray++news.toArray++Builtin.zeroCells z'.cells (grownCap w src.length 0 e-src.length)) (spare:=Builtin.zeroCells z'.cells (grownCap w src.length 0 e-src.length)) (sz:=(T e).size) (rs:=[]) (src:=src) (olds:=[]) (news:=news)
      (by simp) (by simp) (by simp) (by simp) n1 n3 n2 (fun i r hi j c v hj hv=>(n4 i r hi j c v hj hv).mono (eR hd0)) (fun v hv=>fE hT hko hz2 _ v hv) (by simp)
     simpa using this)
   refine ⟨_,_,⟨_,_,_,.inl rfl,hst0.trans hst1,?_⟩,hrun⟩
   have hsz:(([]:List Value).toArray++news.toArray++Builtin.zeroCells z'.cells (grownCap w src.length 0 e-src.length)).size=(0+grownCap w src.length 0 e)*(T e).size:=by
    simp only [Array.size_append,List.size_toArray,List.length_nil,size_zeroCells,hzs,n1]
    rw [Nat.zero_add,Nat.zero_add,←Nat.add_mul];congr 1;omega
   have:=RepV.osl (ρ:=ρ++[some (w.drew.heap.size,(([]:List Value).toArray++news.toArray++Builtin.zeroCells z'.cells (grownCap w src.length 0 e-src.length)).size)])
    (ok:=okB E (ρ++[some (w.drew.heap.size,(([]:List Value).toArray++news.toArray++Builtin.zeroCells z'.cells (grownCap w src.length 0 e-src.length)).size)]) (hp++[.rows (T e).size src]) (pushB w.drew (.cells (([]:List Value).toArray++news.toArray++Builtin.zeroCells z'.cells (grownCap w src.length 0 e-src.length)) e)))
    (w:=pushB w.drew (.cells (([]:List Value).toArray++news.toArray++Builtin.zeroCells z'.cells (grownCap w src.length 0 e-src.length)) e))
    hp.length (T e).size 0 src.length w.drew.heap.size _ (grownCap w src.length 0 e) (by rw [←h.len];simp) hsz.symm hge
   simpa using this
 ·rename_i k sz off n
  split
  ·rename_i sz' rs hcs
   intro ⟨hs1,hs2,hoff,hnl,hsrc,hty,hpos,hby,hko,hbig⟩
   subst hs1;subst hs2;subst hoff
   have hko:=am hko
   obtain ⟨i,z,hi1,hi2,hi3,hi4,hi5⟩:=(aE hT hko).info
   obtain ⟨z',hz1,hz2,_⟩:=dS (P:=P) hT hko
   have hzz:z'=z:=by
    have:=hz1 w
    simp [zeroValue,typeInfo,hi1,hi4] at this
    exact this.symm
   subst hzz
   obtain ⟨news,n1,n2,n3,n4,n5⟩:=nS (P:=P) h.blks hpos hx hsrc
   -- what the row holds till now
   obtain ⟨olds,o1,o2,o3,o4,o5⟩:=nS (P:=P) h.blks hpos hs (by simp only [srcRows,hcs];exact ⟨trivial,trivial,by omega⟩)
   simp only [srcRows,hcs,List.drop_zero] at o1 o2 o3 o4 o5
   have hon:(rs.take n).length=n:=by simp;omega
   rw [hon] at o1 o5
   generalize hrows:(srcRows hp (T e).size x).2=src at *
   have hd0:Below w.heap.size w w.drew:=⟨rfl,rfl,rfl,Nat.le_refl _,fun _ _=>rfl⟩
   have hst0:=HStep.below h hd0
   have hzs:z'.cells.size=(T e).size:=by rw [←Array.length_toList,hz2,List.length_map,(aE hT hko).zl]
   have grow:∀ (base:Option Addr) (cap:Nat),us=.slice base n cap→cap<n+src.length→
     ∃ u w',jV E ρ hp w (.ok (.value u) w') (.osl hp.length (T e).size 0 (n+src.length)) (hp.set k .dead++[.rows (T e).size (rs.take n++src)])∧(Builtin.append_ #[t,xt] ty #[us,ux]).run P w=.ok u w':=by
    intro base cap hus hgc
    subst hus
    have hrun:=fB (P:=P) w t xt ty e i z' ht hi1 hi4 (eM hT hty) (by rw [hi3];exact hby) base n cap olds (fun W hW=>by rw [hi2];exact (o5 W hW).2) ux src.length news
     (fun W hW=>by rw [hi2];exact n5 W hW) hgc (by rw [hi3];exact hbig)
    have hge:=grownCap_ge w (n+src.length) cap e
    have hst1:=HStep.push hst0.heap (olds.toArray++news.toArray++Builtin.zeroCells z'.cells (grownCap w (n+src.length) cap e-(n+src.length))) e (0,0) (.rows (T e).size (rs.take n++src)) (qB _) (mt _ _)
     (k6 (ρ:=ρ) (w:=w.drew) (ok:=okB E ρ hp w.drew) (spare:=Builtin.zeroCells z'.cells (grownCap w (n+src.length) cap e-(n+src.length))) (olds:=olds) (news:=news)
      (by rw [hon];exact o1) o3 o2 (fun i r hi j c v hj hv=>(o4 i r hi j c v hj hv).mono (eR hd0)) n1 n3 n2 (fun i r hi j c v hj hv=>(n4 i r hi j c v hj hv).mono (eR hd0)) (fun v hv=>fE hT hko hz2 _ v hv) (by simp))
    have hst2:=HStep.kill hst1.heap k
    have hkl:k<hp.length:=(List.getElem?_eq_some_iff.1 hcs).1
    rw [List.set_append_left _ _ hkl] at hst2
    refine ⟨_,_,⟨_,_,_,.inl rfl,(hst0.trans hst1).trans hst2,?_⟩,hrun⟩
    have hsz:(olds.toArray++news.toArray++Builtin.zeroCells z'.cells (grownCap w (n+src.length) cap e-(n+src.length))).size=(0+grownCap w (n+src.length) cap e)*(T e).size:=by
     simp only [Array.size_append,List.size_toArray,size_zeroCells,hzs,n1,o1]
     rw [Nat.zero_add,←Nat.add_mul,←Nat.add_mul];congr 1;omega
    have:=RepV.osl (ρ:=ρ++[some (w.drew.heap.size,(olds.toArray++news.toArray++Builtin.zeroCells z'.cells (grownCap w (n+src.length) cap e-(n+src.length))).size)])
     (ok:=okB E (ρ++[some (w.drew.heap.size,(olds.toArray++news.toArray++Builtin.zeroCells z'.cells (grownCap w (n+src.length) cap e-(n+src.length))).size)]) (hp.set k .dead++[.rows (T e).size (rs.take n++src)]) (pushB w.drew (.cells (olds.toArray++news.toArray++Builtin.zeroCells z'.cells (grownCap w (n+src.length) cap e-(n+src.length))) e)))
     (w:=pushB w.drew (.cells (olds.toArray++news.toArray++Builtin.zeroCells z'.cells (grownCap w (n+src.length) cap e-(n+src.length))) e))
     hp.length (T e).size 0 (n+src.length) w.drew.heap.size _ (grownCap w (n+src.length) cap e) (by rw [←h.len];simp) hsz.symm hge
    simpa using this
   cases hs with
   | oslnil _ _ A hkk=>
     have hrs:rs=[]:=by
      rcases h.nil k _ hcs hkk with h1|⟨_,h1⟩
      ·cases h1
      ·injection h1
     subst hrs
     by_cases h0:src.length=0
     ·have:src=[]:=List.eq_nil_of_length_eq_zero h0
      subst this
      have hst:=HStep.move h hcs (by simp) hkk
      refine ⟨.slice A 0 0,w,⟨_,w,_,.inl rfl,by simpa using hst,?_⟩,?_⟩
      ·have:(ρ++[none])[hp.length]?=some none:=by rw [←h.len];simp
       exact .oslnil _ _ A this
      ·have e1:=(n5 w rfl).1
       have e2:=(n5 w rfl).2
       obtain ⟨d,hd,hdn⟩:=eM hT hty
       have hm:(match d with|.int _=>true|_=>false)=false:=by cases d<;>first|rfl|exact absurd rfl (hdn _)
       simp only [List.length_nil] at e1 e2
       have hnn:news=[]:=List.eq_nil_of_length_eq_zero (by simpa using n1)
       subst hnn
       cases A<;>simp [Builtin.append_,run_underlying ht,run_underlying hd,hm,sizeOf,typeInfo,hi1,hi2,e1,e2,storeCells]
     ·exact grow A 0 rfl (by omega)
   | osl _ _ _ _ b m cap hkk hm hn=>
     by_cases hroom:n+src.length≤cap
     ·obtain ⟨q1,cur,tt,fz,hw,hcm,hfz,hone,hrl,hsz,hr⟩:=h.blk k _ b m hcs hkk (by simp)
      have hcap:cap*(T e).size≤cur.size:=by rw [hcm];rw [Nat.zero_add] at hm;exact Nat.le_of_eq hm
      have hfit:n*(T e).size+news.length≤cur.size:=by
       rw [n1,←Nat.add_mul];exact Nat.le_trans (Nat.mul_le_mul_right _ hroom) hcap
      have e0:=n5 w rfl
      have hrun:=iL (P:=P) w t xt ty e i ht hi1 (eM hT hty) b 0 n cap cur tt fz hw hfz.1 ux src.length news e0.1 (by rw [hi2];exact e0.2) n2 hroom (by rw [hi2,Nat.zero_add];exact hfit)
      rw [hi2,Nat.zero_add] at hrun
      have hst1 := HStep.set h hcs (by simp) (x':=.rows (T e).size (rs.take n++src)) (by simp) hkk hw (us':=(cur.toList.take (n*(T e).size)++news++cur.toList.drop (n*(T e).size+news.length)).toArray) (by simp;omega) (fun l e=>by cases e)
       (by
        have hcl:(cur.toList.take (n*(T e).size)).length=n*(T e).size:=by simp;omega
        exact k6 (ρ:=ρ) (w:=w) (ok:=okB E ρ hp w) (spare:=(cur.toList.drop (n*(T e).size+news.length)).toArray) (olds:=cur.toList.take (n*(T e).size)) (news:=news)
         (by rw [hcl,hon]) (fun r hr'=>hrl r (List.mem_of_mem_take hr')) (fun v hv=>hone v (List.mem_of_mem_take hv))
         (fun i r hi j c v hj hv=>by
          rw [List.getElem?_take] at hi hv
          split at hi
          ·split at hv
           ·exact hr i r hi j c v hj (by simpa using hv)
           ·cases hv
          ·cases hi)
         n1 n3 n2 n4 (fun v hv=>hone v (List.mem_of_mem_drop (by simpa using hv))) (by simp))
      have hgk:(hp.set k (.rows (T e).size (rs.take n++src)))[k]?=some (.rows (T e).size (rs.take n++src)):=by
       have:=(List.getElem?_eq_some_iff.1 hcs).1
       simp [this]
      have hst2:=HStep.move hst1.heap hgk (by simp) hkk
      rw [List.set_set] at hst2
      refine ⟨_,_,⟨_,_,_,.inl rfl,hst1.trans hst2,?_⟩,by simpa using hrun⟩
      have:=RepV.osl (ρ:=ρ++[some (b,m)]) (ok:=okB E (ρ++[some (b,m)]) (hp.set k .dead++[.rows (T e).size (rs.take n++src)]) (setB w b (.cells (cur.toList.take (n*(T e).size)++news++cur.toList.drop (n*(T e).size+news.length)).toArray tt fz)))
       (w:=setB w b (.cells (cur.toList.take (n*(T e).size)++news++cur.toList.drop (n*(T e).size+news.length)).toArray tt fz)) hp.length (T e).size 0 (n+src.length) b m cap (by rw [←h.len];simp) hm hroom
      simpa using this
     ·exact grow (some ⟨b,0,none⟩) cap (by simp) (by omega)
  ·intro h;exact h.elim
 ·intro h;exact h.elim
theorem lM {T:TypeId→TI} (hT:an P T) (h:RepH E ρ hp w) (t xt ty:TypeId) (s x:AV) (us ux:Value)
  (hs:RepV ρ (okB E ρ hp w) w s us) (hx:RepV ρ (okB E ρ hp w) w x ux) (hk:(jq T t xt s x hp).ok) :
  ∃ u w',jV E ρ hp w (.ok (.value u) w') (jq T t xt s x hp).v (jq T t xt s x hp).hp∧(Builtin.append_ #[t,xt] ty #[us,ux]).run P w=.ok u w':=by
 revert hk
 unfold jq
 split
 ·rename_i e hke;intro hk;exact wv hT h t xt ty e (aw hT hke) s x us ux hs hx hk
 ·intro h;exact h.elim
end
def srcApp (te:TI) (tk:TK) (hp:List ABlk) (x:AV):Prop×List (List DV):=
 match tk,x with
 |.int _,.d (.int _ m)=>(0<m,List.replicate m.toNat te.zero)
 |_,_=>(wJ tk∧(srcRows hp te.size x).1,(srcRows hp te.size x).2)
def yk:TK→Bool
 |.int _=>true
 |_=>false
def lc (te:TI) (tk:TK) (hp:List ABlk) (x:AV) (k sz sz' off n:Nat) (rs:List (List DV)):MR:=
 ⟨sz=te.size∧sz'=te.size∧off=0∧n≤rs.length∧(srcApp te tk hp x).1∧(yk tk=true→rs.length<n+(srcApp te tk hp x).2.length)∧0<te.size∧0<te.bytes∧(te.kind matches .other)=false∧(n+(srcApp te tk hp x).2.length)*te.bytes≤140737488355328,
  if n+(srcApp te tk hp x).2.length≤rs.length then .osl k te.size 0 (n+(srcApp te tk hp x).2.length) else .osl hp.length te.size 0 (n+(srcApp te tk hp x).2.length),
  if n+(srcApp te tk hp x).2.length≤rs.length then hp.set k (.full te.size (rs.take n++(srcApp te tk hp x).2++rs.drop (n+(srcApp te tk hp x).2.length))) else hp++[.rows te.size (rs.take n++(srcApp te tk hp x).2)]⟩
def fO (T:TypeId→TI) (t t':TypeId) (s x:AV) (hp:List ABlk):MR:=
 match (T t).kind,s with
 | .slice e,.osl k sz off n=>
   (match hp[k]? with
   |some (.full sz' rs)=>lc (T e) (T t').kind hp x k sz sz' off n rs
   |_=>jq T t t' s x hp)
 |_,_=>jq T t t' s x hp
def mE (te:TI) (src:Prop×List (List DV)) (k sz sz' off n:Nat) (rs:List (List DV)) (hp:List ABlk) (f:List (List DV)→ABlk):MR:=
 ⟨sz=te.size∧sz'=te.size∧0<te.size∧off+n≤rs.length∧src.1∧(te.kind matches .other)=false,I ((src.2.take n).length:Int),hp.set k (f (rs.take off++src.2.take n++rs.drop (off+(src.2.take n).length)))⟩
def tj:TK→Prop
 |.slice _=>True
 |_=>False
def go (te:TI) (k sz off n:Nat) (cs:List AV) (s:AV) (hp:List ABlk):MR:=
 match s with
 | .osl k' sz' off' n'=>
   (match hp[k']? with
   |some (.cells cs')=>⟨te.size=1∧sz=1∧sz'=1∧(te.kind matches .other)=false∧off+min n n'≤cs.length∧off'+min n n'≤cs'.length,I ((min n n':Nat):Int),hp.set k (.cells (cs.take off++(cs'.drop off').take (min n n')++cs.drop (off+min n n')))⟩
   |_=>⟨False,.any,hp⟩)
 |_=>⟨False,.any,hp⟩
def po (T:TypeId→TI) (t t':TypeId) (d s:AV) (hp:List ABlk):MR:=
 match (T t).kind,d with
 | .slice e,.osl k sz off n=>
   (match hp[k]? with
   |some (.rows sz' rs)=>mE (T e) (tj (T t').kind∧(srcRows hp (T e).size s).1,(srcRows hp (T e).size s).2) k sz sz' off n rs hp (.rows sz')
   |some (.full sz' rs)=>mE (T e) (tj (T t').kind∧(srcRows hp (T e).size s).1,(srcRows hp (T e).size s).2) k sz sz' off n rs hp (.full sz')
   |some (.cells cs)=>go (T e) k sz off n cs s hp
   |_=>⟨False,.any,hp⟩)
 |_,_=>⟨False,.any,hp⟩
def jh (te:TI) (k sz sz' off n:Nat) (rs:List (List DV)) (hp:List ABlk) (f:List (List DV)→ABlk):MR:=
 ⟨sz=te.size∧sz'=te.size∧0<te.size∧off+n≤rs.length∧(te.kind matches .other)=false,.any,hp.set k (f (rs.take off++List.replicate n te.zero++rs.drop (off+n)))⟩
def kw (T:TypeId→TI) (t:TypeId) (s:AV) (hp:List ABlk):MR:=
 match (T t).kind,s with
 | .slice e,.osl k sz off n=>
   (match hp[k]? with
   |some (.rows sz' rs)=>jh (T e) k sz sz' off n rs hp (.rows sz')
   |some (.full sz' rs)=>jh (T e) k sz sz' off n rs hp (.full sz')
   |_=>⟨False,.any,hp⟩)
 |.slice _,.d (.sl _ [])=>⟨True,.any,hp⟩
 |.slice _,.d (.sc (.slice none 0 0))=>⟨True,.any,hp⟩
 |_,_=>⟨False,.any,hp⟩
section
variable {P:Program} {E:Ent} {ρ ρ' ρ2:List (Option (Nat×Nat))} {hp hp':List ABlk} {w w':World} {ok:Nat→Prop}
theorem pl {us:Array Value} {sz off:Nat} {rs nr:List (List DV)} {news:List Value} (hone:∀ u,u∈us.toList→u.oneCell'=true) (hrl:∀ r,r∈rs→r.length=sz) (hsz:rs.length*sz≤us.size)
  (hr:∀ (i:Nat) (r:List DV),rs[i]?=some r→∀ (j:Nat) (c:DV) (u:Value),r[j]?=some c→us[i*sz+j]?=some u→RepD ok w c u)
  (hnl:news.length=nr.length*sz) (hn1:∀ v,v∈news→v.oneCell'=true) (hnr:∀ r,r∈nr→r.length=sz)
  (hn:∀ (i:Nat) (r:List DV),nr[i]?=some r→∀ (j:Nat) (c:DV) (v:Value),r[j]?=some c→news[i*sz+j]?=some v→RepD ok w c v) (hfit:off+nr.length≤rs.length) :
  let us':=(us.toList.take (off*sz)++news++us.toList.drop (off*sz+news.length)).toArray
  us'.size=us.size∧(∀ u,u∈us'.toList→u.oneCell'=true)∧(∀ r,r∈rs.take off++nr++rs.drop (off+nr.length)→r.length=sz)∧(rs.take off++nr++rs.drop (off+nr.length)).length=rs.length∧
   ∀ (i:Nat) (r:List DV),(rs.take off++nr++rs.drop (off+nr.length))[i]?=some r→∀ (j:Nat) (c:DV) (u:Value),r[j]?=some c→us'[i*sz+j]?=some u→RepD ok w c u:=by
 have hbig:off*sz+news.length≤us.toList.length:=by
  rw [hnl,←Nat.add_mul,Array.length_toList]
  exact Nat.le_trans (Nat.mul_le_mul_right _ hfit) hsz
 refine ⟨?_,fun u hu=>?_,fun r hr'=>?_,cC _ _ _ hfit,fun i r hi j c u hj hu=>?_⟩
 ·have:=cC us.toList news (off*sz) hbig
  simpa using this
 ·simp only [List.mem_append] at hu
  rcases hu with (hu|hu)|hu
  ·exact hone u (List.mem_of_mem_take hu)
  ·exact hn1 u hu
  ·exact hone u (List.mem_of_mem_drop hu)
 ·simp only [List.mem_append] at hr'
  rcases hr' with (hr'|hr')|hr'
  ·exact hrl r (List.mem_of_mem_take hr')
  ·exact hnr r hr'
  ·exact hrl r (List.mem_of_mem_drop hr')
 ·rw [aH _ _ _ hfit] at hi
  have hu':(us.toList.take (off*sz)++news++us.toList.drop (off*sz+news.length))[i*sz+j]?=some u:=by simpa using hu
  rw [aH _ _ _ hbig] at hu'
  by_cases hin:off≤i∧i<off+nr.length
  ·rw [if_pos hin] at hi
   have hjl:j<sz:=by rw [←hnr r (List.mem_of_getElem? hi)];exact (List.getElem?_eq_some_iff.1 hj).1
   have e1:i*sz=off*sz+(i-off)*sz:=by rw [←Nat.add_mul];congr 1;omega
   have e2:(i-off+1)*sz≤nr.length*sz:=Nat.mul_le_mul_right _ (by omega)
   rw [Nat.add_mul] at e2
   rw [if_pos (by omega)] at hu'
   have e3:i*sz+j-off*sz=(i-off)*sz+j:=by omega
   rw [e3] at hu'
   exact hn _ r hi j c u hj hu'
  ·rw [if_neg hin] at hi
   have hjl:j<sz:=by rw [←hrl r (List.mem_of_getElem? hi)];exact (List.getElem?_eq_some_iff.1 hj).1
   have:¬ (off*sz≤i*sz+j∧i*sz+j<off*sz+news.length):=by
    intro ⟨h1,h2⟩
    rw [hnl] at h2
    rcases Nat.lt_or_ge i off with h3|h3
    ·have:(i+1)*sz≤off*sz:=Nat.mul_le_mul_right _ h3
     rw [Nat.add_mul] at this;omega
    ·have h4:off+nr.length≤i:=by omega
     have:(off+nr.length)*sz≤i*sz:=Nat.mul_le_mul_right _ h4
     rw [Nat.add_mul] at this;omega
   rw [if_neg this] at hu'
   exact hr i r hi j c u hj (by simpa using hu')
def wH (x:ABlk) (sz:Nat) (rs:List (List DV)) (f:List (List DV)→ABlk):Prop:=(x=.rows sz rs∧f=.rows sz)∨(x=.full sz rs∧f=.full sz)
theorem HStep.splice (h:RepH E ρ hp w) {k sz off:Nat} {rs nr:List (List DV)} {x:ABlk} {f:List (List DV)→ABlk} {news:List Value} (hx:hp[k]?=some x) (hf:wH x sz rs f) {b m:Nat} (hk:ρ[k]?=some (some (b,m)))
  (hnl:news.length=nr.length*sz) (hn1:∀ v,v∈news→v.oneCell'=true) (hnr:∀ r,r∈nr→r.length=sz)
  (hn:∀ (i:Nat) (r:List DV),nr[i]?=some r→∀ (j:Nat) (c:DV) (v:Value),r[j]?=some c→news[i*sz+j]?=some v→RepD (okB E ρ hp w) w c v) (hfit:off+nr.length≤rs.length) :
  ∃ us ty fz,w.heap[b]?=some (.cells us ty fz)∧us.size=m∧(rT us fz∧plain x us fz)∧off*sz+news.length≤us.size∧HStep E ρ hp w ρ (hp.set k (f (rs.take off++nr++rs.drop (off+nr.length)))) (setB w b (.cells (us.toList.take (off*sz)++news++us.toList.drop (off*sz+news.length)).toArray ty fz)):=by
 rcases hf with ⟨rfl,rfl⟩|⟨rfl,rfl⟩
 ·obtain ⟨q1,us,ty,fz,hw,hm,hfz,hone,hrl,hsz,hr⟩:=h.blk k _ b m hx hk (by simp)
  obtain ⟨c1,c2,c3,c4,c5⟩:=pl hone hrl hsz hr hnl hn1 hnr hn hfit
  refine ⟨us,ty,fz,hw,hm,hfz,?_,HStep.set h hx (by simp) (by simp) hk hw c1 (fun l e=>by cases e) ⟨c2,c3,by rw [c4,c1];exact hsz,c5⟩⟩
  rw [hnl,←Nat.add_mul];exact Nat.le_trans (Nat.mul_le_mul_right _ hfit) hsz
 ·obtain ⟨q1,us,ty,fz,hw,hm,hfz,hone,hrl,hsz,hr⟩:=h.blk k _ b m hx hk (by simp)
  obtain ⟨c1,c2,c3,c4,c5⟩:=pl hone hrl (Nat.le_of_eq hsz) hr hnl hn1 hnr hn hfit
  refine ⟨us,ty,fz,hw,hm,hfz,?_,HStep.set h hx (by simp) (by simp) hk hw c1 (fun l e=>by cases e) ⟨c2,c3,by rw [c4,c1];exact hsz,c5⟩⟩
  rw [hnl,←Nat.add_mul,←hsz];exact Nat.mul_le_mul_right _ hfit
theorem BJ (sz L:Nat) (A:Option Addr) (n n' c:Nat):Builtin.firstCells sz L (.slice A n c)=Builtin.firstCells sz L (.slice A n' c):=by cases A<;>rfl
theorem lU (hB:nb ρ ok w hp) {sz:Nat} (hpos:0<sz) {y:AV} {A:Option Addr} {n n' c:Nat} {src:List (List DV)} (m:Nat) (hy:RepV ρ ok w y (.slice A n' c)) (h:(srcRows hp sz y).1) (hs:(srcRows hp sz y).2=src.take m) :
  ∃ news:List Value,news.length=(src.take m).length*sz∧(∀ v,v∈news→v.oneCell'=true)∧(∀ r,r∈src.take m→r.length=sz)∧
    (∀ (i:Nat) (r:List DV),(src.take m)[i]?=some r→∀ (j:Nat) (c:DV) (v:Value),r[j]?=some c→news[i*sz+j]?=some v→RepD ok w c v)∧
    ∀ W:World,W.heap=w.heap→(Builtin.firstCells sz (src.take m).length (.slice A n c)).run P W=.ok news.toArray W:=by
 obtain ⟨news,n1,n2,n3,n4,n5⟩:=nS (P:=P) hB hpos hy h
 rw [hs] at n1 n3 n4 n5
 exact ⟨news,n1,n2,n3,n4,fun W hW=>by rw [BJ sz _ A n n' c];exact (n5 W hW).2⟩
theorem H4 (hB:nb ρ ok w hp) {sz:Nat} (hpos:0<sz) {x:AV} {u:Value} (hx:RepV ρ ok w x u) (h:(srcRows hp sz x).1) (hns:∀ l,x≠.d (.str l)) (m:Nat) :
  ∃ news:List Value,news.length=((srcRows hp sz x).2.take m).length*sz∧(∀ v,v∈news→v.oneCell'=true)∧(∀ r,r∈(srcRows hp sz x).2.take m→r.length=sz)∧
    (∀ (i:Nat) (r:List DV),((srcRows hp sz x).2.take m)[i]?=some r→∀ (j:Nat) (c:DV) (v:Value),r[j]?=some c→news[i*sz+j]?=some v→RepD ok w c v)∧
    ∀ W:World,W.heap=w.heap→(Builtin.firstCells sz ((srcRows hp sz x).2.take m).length u).run P W=.ok news.toArray W:=by
 have h0:=h
 unfold srcRows at h
 split at h
 ·rename_i sz' rows
  have h:=h
  simp only at h
  subst h
  simp only [srcRows]
  cases hx with|d _ _ hx=>cases hx with|sl _ _ A cap u hcap hsz hc hr=>
  refine lU (n':=(rows.take m).length) hB hpos m (y:=.d (.sl sz' (rows.take m))) (.d _ _ (.sl sz' (rows.take m) A cap u (by simp;omega) (fun r hr'=>hsz r (List.mem_of_mem_take hr')) (fun hp=>?_) fun i r hi j c hj=>?_)) (by simp [srcRows]) (by simp [srcRows])
  ·obtain ⟨b,o,hA,hb,hcell⟩:=hc (by simp at hp;omega)
   refine ⟨b,o,hA,hb,fun i r hi j c hj=>hcell i r ?_ j c hj⟩
   rw [List.getElem?_take] at hi;split at hi
   ·exact hi
   ·cases hi
  ·refine hr i r ?_ j c hj
   rw [List.getElem?_take] at hi;split at hi
   ·exact hi
   ·cases hi
 ·rename_i l;exact absurd rfl (hns l)
 ·cases hx with|d _ _ hx=>
  obtain ⟨A,rfl⟩:=gC hx
  simp only [srcRows]
  exact lU (n':=0) hB hpos m (y:=.d (.sc (.slice none 0 0))) (.d _ _ (.sc0 A)) (by simp [srcRows]) (by simp [srcRows])
 ·rename_i k sz' off n
  split at h
  ·rename_i sz'' rs hcs
   obtain ⟨rfl,rfl,hfit⟩:=h
   simp only [srcRows,hcs]
   cases hx with
   |oslnil _ _ A hkk=>exact lU (n':=0) hB hpos m (y:=.osl k sz'' 0 0) (.oslnil k sz'' A hkk) (by simp [srcRows,hcs]) (by simp [srcRows,hcs])
   | osl _ _ _ _ b mm cap hkk hm hn=>
     exact lU (n':=min m n) hB hpos m (y:=.osl k sz'' off (min m n)) (.osl k sz'' off _ b mm cap hkk hm (by omega)) (by simp only [srcRows,hcs];exact ⟨trivial,trivial,by omega⟩) (by simp only [srcRows,hcs];rw [List.take_take])
  ·rename_i sz'' rs hcs
   obtain ⟨rfl,rfl,hfit⟩:=h
   simp only [srcRows,hcs]
   cases hx with
   |oslnil _ _ A hkk=>exact absurd hkk (hB.2 k _ _ hcs)
   | osl _ _ _ _ b mm cap hkk hm hn=>
     exact lU (n':=min m n) hB hpos m (y:=.osl k sz'' off (min m n)) (.osl k sz'' off _ b mm cap hkk hm (by omega)) (by simp only [srcRows,hcs];exact ⟨trivial,trivial,by omega⟩) (by simp only [srcRows,hcs];rw [List.take_take])
  ·rename_i l hcs
   obtain ⟨rfl,h1,hfit⟩:=h
   simp only [srcRows,hcs]
   cases hx with
   |oslnil _ _ A hkk=>exact lU (n':=0) hB hpos m (y:=.osl k sz' 0 0) (.oslnil k sz' A hkk) (by simp [srcRows,hcs,h1]) (by simp [srcRows,hcs])
   | osl _ _ _ _ b mm cap hkk hm hn=>
     exact lU (n':=min m n) hB hpos m (y:=.osl k sz' off (min m n)) (.osl k sz' off _ b mm cap hkk hm (by omega)) (by simp only [srcRows,hcs];exact ⟨trivial,h1,by omega⟩) (by simp only [srcRows,hcs];rw [List.take_take])
  ·exact h.elim
 ·exact h.elim
theorem Cs {x0:AV} {u:Value} {sz:Nat} (hx:RepV ρ ok w x0 u) (h:(srcRows hp sz x0).1) (hns:∀ l,x0≠.d (.str l)):∃ A n c,u=.slice A n c∧n=(srcRows hp sz x0).2.length:=by
 unfold srcRows at h
 split at h
 ·cases hx with|d _ _ hx=>cases hx with|sl _ _ A cap u hcap hsz hc hr=>exact ⟨_,_,_,rfl,by simp [srcRows]⟩
 ·rename_i l;exact absurd rfl (hns l)
 ·cases hx with|d _ _ hx=>
  obtain ⟨A,rfl⟩:=gC hx
  exact ⟨_,_,_,rfl,by simp [srcRows]⟩
 ·rename_i k sz' off n
  split at h
  ·rename_i sz'' rs hcs
   obtain ⟨rfl,rfl,hfit⟩:=h
   cases hx with
   |oslnil _ _ A hkk=>exact ⟨_,_,_,rfl,by simp [srcRows,hcs]⟩
   |osl _ _ _ _ b mm cap hkk hm hn=>exact ⟨_,_,_,rfl,by simp only [srcRows,hcs];rw [aB _ _ _ hfit]⟩
  ·rename_i sz'' rs hcs
   obtain ⟨rfl,rfl,hfit⟩:=h
   cases hx with
   |oslnil _ _ A hkk=>exact ⟨_,_,_,rfl,by simp [srcRows,hcs]⟩
   |osl _ _ _ _ b mm cap hkk hm hn=>exact ⟨_,_,_,rfl,by simp only [srcRows,hcs];rw [aB _ _ _ hfit]⟩
  ·rename_i l hcs
   obtain ⟨rfl,h1,hfit⟩:=h
   cases hx with
   |oslnil _ _ A hkk=>exact ⟨_,_,_,rfl,by simp [srcRows,hcs]⟩
   |osl _ _ _ _ b mm cap hkk hm hn=>exact ⟨_,_,_,rfl,by simp only [srcRows,hcs];rw [aB _ _ _ hfit]⟩
  ·exact h.elim
 ·exact h.elim
theorem mK {α:Type} {l:List α} {k:Nat} {x:α} (h:l[k]?=some x):l.set k x=l:=by
 apply List.ext_getElem?
 intro j
 rw [List.getElem?_set]
 split
 ·rename_i e;subst e
  split
  ·exact h.symm
  ·rename_i h2;rw [List.getElem?_eq_none (by omega)] at h;cases h
 ·rfl
theorem ir (w w':World) (t xt ty e:TypeId) (i:TypeInfo) (ht:P.underlying t=some (.slice e)) (hi:P.info? e=some i) (A B:Option Addr) (ln c dLen dCap L:Nat) (hL:Nat.min ln dLen=L) (news:List Value)
  (h5:(Builtin.firstCells i.size L (.slice A ln c)).run P w=.ok news.toArray w) (hst:∀ a,B=some a→(storeCells a news).run P w=.ok () w') (hn:B=none→w'=w) :
  (Builtin.copy_ #[t,xt] ty #[.slice B dLen dCap,.slice A ln c]).run P w=.ok (goInt L) w':=by
 subst hL
 cases B with
 |none=>have:=hn rfl;subst this;simp [Builtin.copy_,run_underlying ht,Builtin.lenOf,sizeOf,typeInfo,hi,h5]
 |some a=>have:=hst a rfl;simp [Builtin.copy_,run_underlying ht,Builtin.lenOf,sizeOf,typeInfo,hi,h5,this]
theorem mG {T:TypeId→TI} (hT:an P T) (h:RepH E ρ hp w) (t xt ty e:TypeId) (ht:P.underlying t=some (.slice e)) {k sz sz' off n:Nat} {rs:List (List DV)} {x:ABlk} {f:List (List DV)→ABlk} (hx:hp[k]?=some x) (hf:wH x sz' rs f)
  (s:AV) (us ud:Value) (hs:RepV ρ (okB E ρ hp w) w s us) (hd:RepV ρ (okB E ρ hp w) w (.osl k sz off n) ud) (hns:∀ l,s≠.d (.str l))
  (hk:(mE (T e) (tj (T xt).kind∧(srcRows hp (T e).size s).1,(srcRows hp (T e).size s).2) k sz sz' off n rs hp f).ok) :
  ∃ u w',jV E ρ hp w (.ok (.value u) w') (mE (T e) (tj (T xt).kind∧(srcRows hp (T e).size s).1,(srcRows hp (T e).size s).2) k sz sz' off n rs hp f).v (mE (T e) (tj (T xt).kind∧(srcRows hp (T e).size s).1,(srcRows hp (T e).size s).2) k sz sz' off n rs hp f).hp∧(Builtin.copy_ #[t,xt] ty #[ud,us]).run P w=.ok u w':=by
 obtain ⟨k1,k2,hpos,hfit,⟨hsk,hsrc⟩,hko⟩:=hk
 subst k1;subst k2
 have hko:=am hko
 obtain ⟨i,z,hi1,hi2,hi3,hi4,hi5⟩:=(aE hT hko).info
 obtain ⟨A,ln,c,rfl,hln⟩:=Cs hs hsrc hns
 simp only [mE]
 obtain ⟨news,n1,n2,n3,n4,n5⟩:=H4 (P:=P) h.blks hpos hs hsrc hns n
 generalize hrows:(srcRows hp (T e).size s).2=src at *
 have hmin:Nat.min ln n=(src.take n).length:=by rw [List.length_take,hln];exact Nat.min_comm _ _
 cases hd with
 | oslnil _ _ B hkk=>
   have e0:src.take 0=[]:=by simp
   rw [e0] at *
   have hnn:news=[]:=List.eq_nil_of_length_eq_zero (by simpa using n1)
   have hrs:hp.set k (f (rs.take 0++[]++rs.drop (0+([]:List (List DV)).length)))=hp:=by
    simp only [List.take_zero,List.nil_append,List.length_nil,Nat.add_zero,List.drop_zero]
    rcases hf with ⟨rfl,rfl⟩|⟨rfl,rfl⟩<;>exact mK hx
   rw [hrs]
   refine ⟨goInt 0,w,⟨_,w,ρ,.inl rfl,HStep.below h ⟨rfl,rfl,rfl,Nat.le_refl _,fun _ _=>rfl⟩,.d _ _ (.int _ _)⟩,?_⟩
   have h5:=n5 w rfl
   subst hnn
   exact ir w w t xt ty e i ht hi1 A B ln c 0 0 0 (Nat.min_zero _) [] (by rw [hi2];exact h5) (fun a _=>by simp [storeCells]) fun _=>rfl
 | osl _ _ _ _ b m cap hkk hm hn=>
   obtain ⟨us,ty',fz,hw,hum,hfz,hbig,hst⟩:=HStep.splice h hx hf hkk (off:=off) (nr:=src.take n) n1 n2 n3 n4 (by have:(src.take n).length≤n:=List.length_take_le _ _;omega)
   refine ⟨goInt (src.take n).length,_,⟨_,_,ρ,.inl rfl,hst,.d _ _ (.int _ _)⟩,?_⟩
   have hrun:=ch (P:=P) b (off*(T e).size) ty' fz news 0 us w hw (by simpa using hbig) hfz.1 n2
   simp only [Nat.add_zero] at hrun
   exact ir w _ t xt ty e i ht hi1 A _ ln c n cap _ hmin news (by rw [hi2];exact n5 w rfl) (fun a ha=>by injection ha with ha;subst ha;exact hrun) (fun h=>by cases h)
theorem pA {T:TypeId→TI} (hT:an P T) (h:RepH E ρ hp w) (t xt ty e:TypeId) (ht:P.underlying t=some (.slice e)) {k sz off n:Nat} {cs:List AV} (hx:hp[k]?=some (.cells cs))
  (s:AV) (us ud:Value) (hs:RepV ρ (okB E ρ hp w) w s us) (hd:RepV ρ (okB E ρ hp w) w (.osl k sz off n) ud) (hk:(go (T e) k sz off n cs s hp).ok) :
  ∃ u w',jV E ρ hp w (.ok (.value u) w') (go (T e) k sz off n cs s hp).v (go (T e) k sz off n cs s hp).hp∧(Builtin.copy_ #[t,xt] ty #[ud,us]).run P w=.ok u w':=by
 revert hk
 unfold go
 split
 ·rename_i k' sz' off' n'
  split
  ·rename_i cs' hcs
   rintro ⟨k1,rfl,rfl,hko,f1,f2⟩
   have hko:=am hko
   obtain ⟨i,z,hi1,hi2,hi3,hi4,hi5⟩:=(aE hT hko).info
   rw [k1] at hi2
   -- what is read
   obtain ⟨A,c,news,rfl,n1,n2,n3,n4⟩:∃ (A:Option Addr) (c:Nat) (news:List Value),us=.slice A n' c∧news.length=min n n'∧(∀ v,v∈news→v.oneCell'=true)∧
     (∀ (j:Nat) (x:AV) (v:Value),((cs'.drop off').take (min n n'))[j]?=some x→news[j]?=some v→RepV ρ (okB E ρ hp w) w x v)∧(Builtin.firstCells 1 (min n n') (.slice A n' c)).run P w=.ok news.toArray w:=by
    cases hs with
    |oslnil _ _ A hkk=>exact ⟨A,0,[],rfl,by simp,by simp,by simp,by have:=dI (P:=P) 1 A w;simpa using this⟩
    | osl _ _ _ _ b m cap hkk hm hn=>
      obtain ⟨us,ty,fz,hw,hum,hone,hsz,hr⟩:=h.blks.1 k' _ b m hcs hkk (by simp)
      have hbig:off'+min n n'≤us.toList.length:=by rw [Array.length_toList];omega
      have hnl:((us.toList.drop off').take (min n n')).length=min n n':=aB _ _ _ hbig
      refine ⟨_,cap,(us.toList.drop off').take (min n n'),rfl,hnl,fun v hv=>hone v (ef hv),fun j x v hj hv=>?_,?_⟩
      ·have a1:=(aj _ _ _ _ _ hj).1
       have a2:=(aj _ _ _ _ _ hv).1
       exact hr _ _ _ a1 (by simpa using a2)
      ·simp only [Builtin.firstCells,Nat.mul_one]
       have:=ko (P:=P) w b off' ((us.toList.drop off').take (min n n')) fun j v hj=>by
        have:=(aj _ _ _ _ _ hj).1
        rw [aL hw]
        simpa using this
       rwa [hnl] at this
   have hmin:Nat.min n' n=min n n':=Nat.min_comm _ _
   cases hd with
   | oslnil _ _ B hkk=>
     have e0:min 0 n'=0:=by omega
     have hnn:news=[]:=List.eq_nil_of_length_eq_zero (by omega)
     subst hnn
     simp only [e0,List.take_zero,List.nil_append,Nat.add_zero,List.drop_zero]
     rw [mK hx]
     refine ⟨goInt 0,w,⟨_,w,ρ,.inl rfl,HStep.below h ⟨rfl,rfl,rfl,Nat.le_refl _,fun _ _=>rfl⟩,.d _ _ (.int _ _)⟩,?_⟩
     rw [e0] at n4
     exact ir w w t xt ty e i ht hi1 A B n' c 0 0 0 (Nat.min_zero _) [] (by rw [hi2];exact n4) (fun a _=>by simp [storeCells]) fun _=>rfl
   | osl _ _ _ _ b m cap hkk hm hn=>
     obtain ⟨q1,us,ty',fz,hw,hum,hfz,hone,hsz,hr⟩:=h.blk k _ b m hx hkk (by simp)
     have hsz:us.size=cs.length:=hsz
     have hbig:off+news.length≤us.toList.length:=by rw [show us.toList.length=us.size from Array.length_toList];omega
     have hlen:(cs.take off++(cs'.drop off').take (min n n')++cs.drop (off+min n n')).length=cs.length:=by
      have:((cs'.drop off').take (min n n')).length=min n n':=aB _ _ _ f2
      have:=cC cs ((cs'.drop off').take (min n n')) off (by omega)
      simp at this ⊢;omega
     have hst:HStep E ρ hp w ρ (hp.set k (.cells (cs.take off++(cs'.drop off').take (min n n')++cs.drop (off+min n n')))) (setB w b (.cells (us.toList.take off++news++us.toList.drop (off+news.length)).toArray ty' fz)):=by
      have hl:=cC us.toList news off hbig
      refine HStep.set h hx (by simp) (by simp) hkk hw (by simpa using hl) (fun l e=>by cases e) ⟨fun u hu=>?_,?_,fun j x u hj hu=>?_⟩
      ·simp only [List.mem_append] at hu
       rcases hu with (hu|hu)|hu
       ·exact hone u (Array.mem_toList_iff.1 (List.mem_of_mem_take hu) |> Array.mem_toList_iff.2)
       ·exact n2 u hu
       ·exact hone u (List.mem_of_mem_drop hu)
      ·rw [hlen,←hsz];simpa using hl
      ·have hn2:((cs'.drop off').take (min n n')).length=min n n':=aB _ _ _ f2
       have hj2:(cs.take off++(cs'.drop off').take (min n n')++cs.drop (off+((cs'.drop off').take (min n n')).length))[j]?=some x:=by rw [hn2];exact hj
       rw [aH _ _ _ (by omega)] at hj2
       have hu':(us.toList.take off++news++us.toList.drop (off+news.length))[j]?=some u:=by simpa using hu
       rw [aH _ _ _ hbig] at hu'
       by_cases hin:off≤j∧j<off+min n n'
       ·rw [if_pos (by omega)] at hj2 hu'
        exact n3 _ _ _ hj2 hu'
       ·rw [if_neg (by omega)] at hj2 hu'
        exact hr _ _ _ hj2 (by simpa using hu')
     refine ⟨goInt (min n n':Nat),_,⟨_,_,ρ,.inl rfl,hst,.d _ _ (.int _ _)⟩,?_⟩
     have hrun:=ch (P:=P) b off ty' fz news 0 us w hw (by simpa using hbig) hfz.1 n2
     simp only [Nat.add_zero] at hrun
     rw [Nat.mul_one]
     exact ir w _ t xt ty e i ht hi1 A _ n' c n cap _ hmin news (by rw [hi2];exact n4) (fun a ha=>by injection ha with ha;subst ha;exact hrun) (fun h=>by cases h)
  ·intro h;exact h.elim
 ·intro h;exact h.elim
theorem vJ {T:TypeId→TI} (hT:an P T) (h:RepH E ρ hp w) (t xt ty:TypeId) (d s:AV) (ud us:Value) (hd:RepV ρ (okB E ρ hp w) w d ud) (hs:RepV ρ (okB E ρ hp w) w s us) (hns:∀ l,s≠.d (.str l))
  (hk:(po T t xt d s hp).ok):∃ u w',jV E ρ hp w (.ok (.value u) w') (po T t xt d s hp).v (po T t xt d s hp).hp∧(Builtin.copy_ #[t,xt] ty #[ud,us]).run P w=.ok u w':=by
 revert hk
 unfold po
 split
 ·rename_i e k sz off n hke
  split
  ·rename_i sz' rs hcs;intro hk;exact mG hT h t xt ty e (aw hT hke) hcs (.inl ⟨rfl,rfl⟩) s us ud hs hd hns hk
  ·rename_i sz' rs hcs;intro hk;exact mG hT h t xt ty e (aw hT hke) hcs (.inr ⟨rfl,rfl⟩) s us ud hs hd hns hk
  ·rename_i cs hcs;intro hk;exact pA hT h t xt ty e (aw hT hke) hcs s us ud hs hd hk
  ·intro h;exact h.elim
 ·intro h;exact h.elim
theorem sw (z:Array Value) (n i j:Nat) (hi:i<n) (hj:j<z.size):(Builtin.zeroCells z n)[i*z.size+j]?=some z[j]:=by
 have h1:i*z.size+j<n*z.size:=by
  have:(i+1)*z.size≤n*z.size:=Nat.mul_le_mul_right _ hi
  rw [Nat.add_mul] at this;omega
 have h2:(i*z.size+j)%z.size=j:=by rw [Nat.add_comm,Nat.add_mul_mod_self_right,Nat.mod_eq_of_lt hj]
 simp only [Builtin.zeroCells,Array.getElem?_map]
 rw [Array.getElem?_eq_getElem (by simpa using h1)]
 simp [h2,hj]
theorem tQ {T:TypeId→TI} (hT:an P T) {e:TypeId} (hko:(T e).kind≠.other) {z:Value} (hz:z.cells.toList=(T e).zero.map DV.val) (n:Nat) :
  (Builtin.zeroCells z.cells n).toList.length=(List.replicate n (T e).zero).length*(T e).size∧(∀ v,v∈(Builtin.zeroCells z.cells n).toList→v.oneCell'=true)∧(∀ r,r∈List.replicate n (T e).zero→r.length=(T e).size)∧
   (∀ (i:Nat) (r:List DV),(List.replicate n (T e).zero)[i]?=some r→∀ (j:Nat) (c:DV) (v:Value),r[j]?=some c→(Builtin.zeroCells z.cells n).toList[i*(T e).size+j]?=some v→RepD ok w c v):=by
 have hzs:z.cells.size=(T e).size:=by rw [←Array.length_toList,hz,List.length_map,(aE hT hko).zl]
 refine ⟨by rw [Array.length_toList,size_zeroCells,hzs,List.length_replicate],fun v hv=>fE hT hko hz n v hv,fun r hr=>by rw [List.eq_of_mem_replicate hr];exact (aE hT hko).zl,fun i r hi j c v hj hv=>?_⟩
 have hil:i<n:=by have:=(List.getElem?_eq_some_iff.1 hi).1;simpa using this
 have hr:r=(T e).zero:=List.eq_of_mem_replicate (List.mem_of_getElem? hi)
 subst hr
 have hjl:j<z.cells.size:=by rw [hzs,←(aE hT hko).zl];exact (List.getElem?_eq_some_iff.1 hj).1
 have h1:=sw z.cells n i j hil hjl
 rw [hzs,←Array.getElem?_toList,hv] at h1
 injection h1 with h1
 have h2:z.cells.toList[j]?=some (c.val):=by rw [hz,List.getElem?_map,hj];rfl
 rw [Array.getElem?_toList,Array.getElem?_eq_getElem hjl] at h2
 injection h2 with h2
 rw [h1,h2]
 have:=(aE hT hko).one c (List.mem_of_getElem? hj)
 exact pK this.1 this.2
theorem lC {T:TypeId→TI} (hT:an P T) (h:RepH E ρ hp w) (t ty e:TypeId) (ht:P.underlying t=some (.slice e)) {k sz sz' off n:Nat} {rs:List (List DV)} {x:ABlk} {f:List (List DV)→ABlk} (hx:hp[k]?=some x) (hf:wH x sz' rs f)
  (ud:Value) (hd:RepV ρ (okB E ρ hp w) w (.osl k sz off n) ud) (hk:(jh (T e) k sz sz' off n rs hp f).ok) :
  ∃ u w',jV E ρ hp w (.ok (.value u) w') (jh (T e) k sz sz' off n rs hp f).v (jh (T e) k sz sz' off n rs hp f).hp∧(Builtin.clear_ #[t] ty #[ud]).run P w=.ok u w':=by
 obtain ⟨k1,k2,hpos,hfit,hko⟩:=hk
 subst k1;subst k2
 have hko:=am hko
 obtain ⟨z',hz1,hz2,_⟩:=dS (P:=P) hT hko
 simp only [jh]
 obtain ⟨n1,n2,n3,n4⟩:=tQ (P:=P) (w:=w) (ok:=okB E ρ hp w) hT hko hz2 n
 have hlen:(List.replicate n (T e).zero).length=n:=List.length_replicate
 cases hd with
 | oslnil _ _ B hkk=>
   have hrs:hp.set k (f (rs.take 0++List.replicate 0 (T e).zero++rs.drop (0+0)))=hp:=by
    simp only [List.take_zero,List.replicate_zero,List.nil_append,Nat.add_zero,List.drop_zero]
    rcases hf with ⟨rfl,rfl⟩|⟨rfl,rfl⟩<;>exact mK hx
   rw [hrs]
   exact ⟨.tuple #[],w,⟨_,w,ρ,.inl rfl,HStep.below h ⟨rfl,rfl,rfl,Nat.le_refl _,fun _ _=>rfl⟩,.any _⟩,by cases B<;>simp [Builtin.clear_,run_underlying ht]⟩
 | osl _ _ _ _ b m cap hkk hm hn=>
   obtain ⟨us,ty',fz,hw,hum,hfz,hbig,hst⟩:=HStep.splice h hx hf hkk (off:=off) (nr:=List.replicate n (T e).zero) n1 n2 n3 n4 (by rw [hlen];exact hfit)
   rw [hlen] at hst
   by_cases hn0:n=0
   ·subst hn0
    have hrs:hp.set k (f (rs.take off++List.replicate 0 (T e).zero++rs.drop (off+0)))=hp:=by
     simp only [List.replicate_zero,List.append_nil,Nat.add_zero,List.take_append_drop]
     rcases hf with ⟨rfl,rfl⟩|⟨rfl,rfl⟩<;>exact mK hx
    rw [hrs]
    exact ⟨.tuple #[],w,⟨_,w,ρ,.inl rfl,HStep.below h ⟨rfl,rfl,rfl,Nat.le_refl _,fun _ _=>rfl⟩,.any _⟩,by simp [Builtin.clear_,run_underlying ht]⟩
   ·refine ⟨.tuple #[],_,⟨_,_,ρ,.inl rfl,hst,.any _⟩,?_⟩
    have hrun:=ch (P:=P) b (off*(T e).size) ty' fz (Builtin.zeroCells z'.cells n).toList 0 us w hw (by simpa using hbig) hfz.1 n2
    simp only [Nat.add_zero] at hrun
    obtain ⟨n',rfl⟩:∃ n',n=n'+1:=⟨n-1,by omega⟩
    simp [Builtin.clear_,run_underlying ht,hz1,hrun]
theorem uX {T:TypeId→TI} (hT:an P T) (h:RepH E ρ hp w) (t ty:TypeId) (s:AV) (us:Value) (hs:RepV ρ (okB E ρ hp w) w s us) (hk:(kw T t s hp).ok) :
  ∃ u w',jV E ρ hp w (.ok (.value u) w') (kw T t s hp).v (kw T t s hp).hp∧(Builtin.clear_ #[t] ty #[us]).run P w=.ok u w':=by
 revert hk
 unfold kw
 split
 ·rename_i e k sz off n hke
  split
  ·rename_i sz' rs hcs;intro hk;exact lC hT h t ty e (aw hT hke) hcs (.inl ⟨rfl,rfl⟩) us hs hk
  ·rename_i sz' rs hcs;intro hk;exact lC hT h t ty e (aw hT hke) hcs (.inr ⟨rfl,rfl⟩) us hs hk
  ·intro h;exact h.elim
 ·rename_i e sz hke
  intro _
  cases hs with|d _ _ hx=>cases hx with|sl _ _ A cap u hcap hsz hc hr=>
  exact ⟨.tuple #[],w,⟨_,w,ρ,.inl rfl,HStep.below h ⟨rfl,rfl,rfl,Nat.le_refl _,fun _ _=>rfl⟩,.any _⟩,by cases A<;>simp [Builtin.clear_,run_underlying (aw hT hke)]⟩
 ·rename_i e hke
  intro _
  cases hs with|d _ _ hx=>
  obtain ⟨A,rfl⟩:=gC hx
  exact ⟨.tuple #[],w,⟨_,w,ρ,.inl rfl,HStep.below h ⟨rfl,rfl,rfl,Nat.le_refl _,fun _ _=>rfl⟩,.any _⟩,by cases A<;>simp [Builtin.clear_,run_underlying (aw hT hke)]⟩
 ·intro h;exact h.elim
theorem rW {T:TypeId→TI} (hT:an P T) (h:RepH E ρ hp w) (t xt ty e:TypeId) (ht:P.underlying t=some (.slice e)) {k sz sz' off n:Nat} {rs:List (List DV)} (hcs:hp[k]?=some (.full sz' rs)) (x:AV) (us ux:Value)
  (hs:RepV ρ (okB E ρ hp w) w (.osl k sz off n) us) (hx:RepV ρ (okB E ρ hp w) w x ux) (hk:(lc (T e) (T xt).kind hp x k sz sz' off n rs).ok) :
  ∃ u w',jV E ρ hp w (.ok (.value u) w') (lc (T e) (T xt).kind hp x k sz sz' off n rs).v (lc (T e) (T xt).kind hp x k sz sz' off n rs).hp∧(Builtin.append_ #[t,xt] ty #[us,ux]).run P w=.ok u w':=by
 obtain ⟨k1,k2,k3,hnr,hsrc,hint,hpos,hby,hko,hbig⟩:=hk
 subst k1;subst k2;subst k3
 have hko:=am hko
 obtain ⟨i,z,hi1,hi2,hi3,hi4,hi5⟩:=(aE hT hko).info
 obtain ⟨z',hz1,hz2,_⟩:=dS (P:=P) hT hko
 have hzz:z'=z:=by
  have:=hz1 w
  simp [zeroValue,typeInfo,hi1,hi4] at this
  exact this.symm
 subst hzz
 have hzs:z'.cells.size=(T e).size:=by rw [←Array.length_toList,hz2,List.length_map,(aE hT hko).zl]
 simp only [lc]
 have hd0:Below w.heap.size w w.drew:=⟨rfl,rfl,rfl,Nat.le_refl _,fun _ _=>rfl⟩
 have hst0:=HStep.below h hd0
 cases hs with
 |oslnil _ _ A hkk=>exact absurd hkk (h.blks.2 k _ _ hcs)
 |osl _ _ _ _ b m cap hkk hm hn=>
 obtain ⟨q1,cur,tt,fz,hw,hcm,hfz,hone,hrl,hsz,hr⟩:=h.blk k _ b m hcs hkk (by simp)
 have hcap:cap=rs.length:=by
  rw [←hm] at hcm
  rw [hcm] at hsz
  have:=Nat.eq_of_mul_eq_mul_right hpos hsz
  omega
 -- what the row holds till now
 have hs':RepV ρ (okB E ρ hp w) w (.osl k (T e).size 0 n) (.slice (some ⟨b,0*(T e).size,none⟩) n cap):=.osl k (T e).size 0 n b m cap hkk hm hn
 obtain ⟨olds,o1,o2,o3,o4,o5⟩:=nS (P:=P) h.blks hpos hs' (by simp only [srcRows,hcs];exact ⟨trivial,trivial,by omega⟩)
 simp only [srcRows,hcs,List.drop_zero] at o1 o2 o3 o4 o5
 have hon:(rs.take n).length=n:=by simp;omega
 rw [hon] at o1 o5
 -- what is appended
 have happ:∃ news:List Value,news.length=(srcApp (T e) (T xt).kind hp x).2.length*(T e).size∧(∀ v,v∈news→v.oneCell'=true)∧(∀ r,r∈(srcApp (T e) (T xt).kind hp x).2→r.length=(T e).size)∧
   (∀ (i:Nat) (r:List DV),(srcApp (T e) (T xt).kind hp x).2[i]?=some r→∀ (j:Nat) (c:DV) (v:Value),r[j]?=some c→news[i*(T e).size+j]?=some v→RepD (okB E ρ hp w) w c v)∧
   ((n+(srcApp (T e) (T xt).kind hp x).2.length≤rs.length→∃ wz,(Builtin.append_ #[t,xt] ty #[.slice (some ⟨b,0*(T e).size,none⟩) n cap,ux]).run P w=.ok (.slice (some ⟨b,0,none⟩) (n+(srcApp (T e) (T xt).kind hp x).2.length) cap) wz∧wz=setB w b (.cells (cur.toList.take (n*(T e).size)++news++cur.toList.drop (n*(T e).size+news.length)).toArray tt fz))∧
   (rs.length<n+(srcApp (T e) (T xt).kind hp x).2.length→(Builtin.append_ #[t,xt] ty #[.slice (some ⟨b,0*(T e).size,none⟩) n cap,ux]).run P w=.ok (.slice (some ⟨w.heap.size,0,none⟩) (n+(srcApp (T e) (T xt).kind hp x).2.length) (grownCap w (n+(srcApp (T e) (T xt).kind hp x).2.length) cap e))
    (w.drew.alloc (.cells (olds.toArray++news.toArray++Builtin.zeroCells z'.cells (grownCap w (n+(srcApp (T e) (T xt).kind hp x).2.length) cap e-(n+(srcApp (T e) (T xt).kind hp x).2.length))) e)))):=by
  revert hsrc hint hbig
  unfold srcApp
  split
  ·rename_i kn kq mm hkx
   intro hsrc hint hbig
   simp only at hsrc hbig hint ⊢
   cases hx with|d _ _ hx=>cases hx with|int _ _=>
   obtain ⟨a1,a2,a3,a4⟩:=tQ (P:=P) (w:=w) (ok:=okB E ρ hp w) hT hko hz2 mm.toNat
   have hgr:=hint (by simp [hkx,yk])
   simp only [List.length_replicate] at hbig hgr ⊢
   refine ⟨(Builtin.zeroCells z'.cells mm.toNat).toList,by simpa using a1,a2,a3,a4,fun h=>by omega,fun _=>?_⟩
   have hmm:((mm.toNat:Nat):Int)=mm:=by omega
   have h63:n+mm.toNat≤140737488355328:=Nat.le_trans (Nat.le_mul_of_pos_right _ hby) hbig
   have hmb:mm.toNat*(T e).bytes≤140737488355328:=Nat.le_trans (Nat.mul_le_mul_right _ (by omega)) hbig
   have:=Lib.run_append_grow_zeros (P:=P) w t xt ty e i z' kq kn ht (lh hT hkx) hi1 hi4 (some ⟨b,0*(T e).size,none⟩) n cap olds (by rw [hi2];exact (o5 w.drew rfl).2) mm.toNat (by omega) (by rw [hi2];exact hpos) (by omega) (by omega) (by rw [hi3];omega) (by rw [hi3];exact growslice_fits (by omega) hbig)
   rw [hmm] at this
   simpa using this
  ·rename_i hno
   intro hsrc hint hbig
   obtain ⟨hty,hsrc⟩:=hsrc
   obtain ⟨news,n1,n2,n3,n4,n5⟩:=nS (P:=P) h.blks hpos hx hsrc
   simp only at hbig ⊢
   generalize hrows:(srcRows hp (T e).size _).2=src at *
   refine ⟨news,n1,n2,n3,n4,fun hroom=>?_,fun hgr=>?_⟩
   ·have e0:=n5 w rfl
    have hfit:n*(T e).size+news.length≤cur.size:=by
     rw [n1,←Nat.add_mul,←hsz];exact Nat.mul_le_mul_right _ hroom
    have hrun:=iL (P:=P) w t xt ty e i ht hi1 (eM hT hty) b 0 n cap cur tt fz hw hfz.1 ux src.length news e0.1 (by rw [hi2];exact e0.2) n2 (by omega) (by rw [hi2,Nat.zero_add];exact hfit)
    rw [hi2,Nat.zero_add] at hrun
    exact ⟨_,by simpa using hrun,rfl⟩
   ·exact fB (P:=P) w t xt ty e i z' ht hi1 hi4 (eM hT hty) (by rw [hi3];exact hby) _ n cap olds (fun W hW=>by rw [hi2];exact (o5 W hW).2) ux src.length news
     (fun W hW=>by rw [hi2];exact n5 W hW) (by omega) (by rw [hi3];exact hbig)
 obtain ⟨news,n1,n2,n3,n4,hroom,hgrow⟩:=happ
 generalize hrows:(srcApp (T e) (T xt).kind hp x).2=src at *
 by_cases hc:n+src.length≤rs.length
 ·rw [if_pos hc,if_pos hc]
  obtain ⟨wz,hrun,hwz⟩:=hroom hc
  obtain ⟨us,ty',fz',hw',hum,hfz',hbig',hst⟩:=HStep.splice h hcs (.inr ⟨rfl,rfl⟩) hkk (off:=n) (nr:=src) n1 n2 n3 n4 hc
  rw [hw] at hw'
  injection hw' with hw';injection hw' with e1 e2 e3
  subst e1;subst e2;subst e3;subst hwz
  refine ⟨_,_,⟨_,_,ρ,.inl rfl,hst,?_⟩,hrun⟩
  have:=RepV.osl (ρ:=ρ) (ok:=okB E ρ (hp.set k (.full (T e).size (rs.take n++src++rs.drop (n+src.length)))) (setB w b (.cells (cur.toList.take (n*(T e).size)++news++cur.toList.drop (n*(T e).size+news.length)).toArray tt fz)))
   (w:=setB w b (.cells (cur.toList.take (n*(T e).size)++news++cur.toList.drop (n*(T e).size+news.length)).toArray tt fz)) k (T e).size 0 (n+src.length) b m cap hkk hm (by omega)
  simpa using this
 ·rw [if_neg hc,if_neg hc]
  have hrun:=hgrow (by omega)
  have hge:=grownCap_ge w (n+src.length) cap e
  have hst1:=HStep.push hst0.heap (olds.toArray++news.toArray++Builtin.zeroCells z'.cells (grownCap w (n+src.length) cap e-(n+src.length))) e (0,0) (.rows (T e).size (rs.take n++src)) (qB _) (mt _ _)
   (k6 (ρ:=ρ) (w:=w.drew) (ok:=okB E ρ hp w.drew) (spare:=Builtin.zeroCells z'.cells (grownCap w (n+src.length) cap e-(n+src.length))) (olds:=olds) (news:=news)
    (by rw [hon];exact o1) o3 o2 (fun i r hi j c v hj hv=>(o4 i r hi j c v hj hv).mono (eR hd0)) n1 n3 n2 (fun i r hi j c v hj hv=>(n4 i r hi j c v hj hv).mono (eR hd0)) (fun v hv=>fE hT hko hz2 _ v hv) (by simp))
  refine ⟨_,_,⟨_,_,_,.inl rfl,hst0.trans hst1,?_⟩,hrun⟩
  have hsz2:(olds.toArray++news.toArray++Builtin.zeroCells z'.cells (grownCap w (n+src.length) cap e-(n+src.length))).size=(0+grownCap w (n+src.length) cap e)*(T e).size:=by
   simp only [Array.size_append,List.size_toArray,size_zeroCells,hzs,n1,o1]
   rw [Nat.zero_add,←Nat.add_mul,←Nat.add_mul];congr 1;omega
  have:=RepV.osl (ρ:=ρ++[some (w.drew.heap.size,(olds.toArray++news.toArray++Builtin.zeroCells z'.cells (grownCap w (n+src.length) cap e-(n+src.length))).size)])
   (ok:=okB E (ρ++[some (w.drew.heap.size,(olds.toArray++news.toArray++Builtin.zeroCells z'.cells (grownCap w (n+src.length) cap e-(n+src.length))).size)]) (hp++[.rows (T e).size (rs.take n++src)]) (pushB w.drew (.cells (olds.toArray++news.toArray++Builtin.zeroCells z'.cells (grownCap w (n+src.length) cap e-(n+src.length))) e)))
   (w:=pushB w.drew (.cells (olds.toArray++news.toArray++Builtin.zeroCells z'.cells (grownCap w (n+src.length) cap e-(n+src.length))) e))
   hp.length (T e).size 0 (n+src.length) w.drew.heap.size _ (grownCap w (n+src.length) cap e) (by rw [←h.len];simp) hsz2.symm hge
  simpa using this
theorem qh {T:TypeId→TI} (hT:an P T) (h:RepH E ρ hp w) (t xt ty:TypeId) (s x:AV) (us ux:Value)
  (hs:RepV ρ (okB E ρ hp w) w s us) (hx:RepV ρ (okB E ρ hp w) w x ux) (hk:(fO T t xt s x hp).ok) :
  ∃ u w',jV E ρ hp w (.ok (.value u) w') (fO T t xt s x hp).v (fO T t xt s x hp).hp∧(Builtin.append_ #[t,xt] ty #[us,ux]).run P w=.ok u w':=by
 revert hk
 unfold fO
 split
 ·rename_i e k sz off n hke
  split
  ·rename_i sz' rs hcs;intro hk;exact rW hT h t xt ty e (aw hT hke) hcs x us ux hs hx hk
  ·intro hk;exact lM hT h t xt ty _ x us ux hs hx hk
 ·intro hk;exact lM hT h t xt ty _ x us ux hs hx hk
end
end Go.Proofs.YtjcooccnfkfjhaaGreatDoor
