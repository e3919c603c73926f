/- A part of what Mem leans on: texts of this claim, one behind the other. No condition. -/
import Derived.ChangeReads
import Derived.SizedLaws
import Derived.ChangeOld
import Derived.ChangeSame
import Derived.ChangeShapes
import Derived.Below
import Derived.RowKit
import Derived.ShutString
import Derived.Carry
import Derived.ProofKit
import Derived.OpenShut
import Derived.IntWalk
import Derived.Lib.Overlaps
import Derived.Test.YtjcooccnfkfjhaaGreatDoorChecked
import Derived.Test.YtjcooccnfkfjhaaGreatDoorMemK4
namespace Go.Proofs.YtjcooccnfkfjhaaGreatDoor
set_option linter.unusedVariables false
set_option linter.unusedSimpArgs false
open Go Go.RowKit Go.ChangeShapes Go.WideShapes
def pi:Nat→List (Nat×Nat×TypeId)→Nat→Bool
 |o,[],n=>o==n
 |o,(o',s,_)::r,n=>o'==o&&pi (o+s) r n
def kJ (T:TypeId→TI):Nat→TypeId→Bool
 |0,_=>false
 | m+1,t=>
   match (T t).kind with
   |.bool=>(T t).size==1
   |.str=>(T t).size==1
   |.int _=>(T t).size==1
   |.slice e=>(T t).size==1&&decide (0<(T e).size)&&kJ T m e
   |.struct fs=>pi 0 fs (T t).size&&fs.all fun f=>(T f.2.2).size==f.2.1&&kJ T m f.2.2
   |_=>false
def kf (one:TypeId→List DV→Prop):List (Nat×Nat×TypeId)→List DV→Prop
 |[],cs=>cs=[]
 |f::r,cs=>∃ a b,cs=a++b∧one f.2.2 a∧kf one r b
def dY (T:TypeId→TI):Nat→TypeId→List DV→Prop
 |0,_,_=>False
 | m+1,t,cs=>
   match (T t).kind with
   |.bool=>∃ b,cs=[.bool b]
   |.str=>∃ l,cs=[.str l]∧l.length≤140737488351232
   |.int k=>∃ n,cs=[.int k n]∧(Lit.int k n).wf=true
   |.slice e=>∃ rows,cs=[.sl (T e).size rows]∧rows.length*(T e).bytes≤140737488351232∧rows.length≤9223372036854775807∧∀ r,r∈rows→dY T m e r
   |.struct fs=>kf (dY T m) fs cs
   |_=>False
inductive SmallD (N:Nat):DV→Prop
 |int (k:IntKind) (n:Int):SmallD N (.int k n)
 |bool (b:Bool):SmallD N (.bool b)
 |str (l:List UInt8) (h:l.length≤N):SmallD N (.str l)
 |sl (sz:Nat) (rows:List (List DV)) (h:rows.length≤N) (hr:∀ r,r∈rows→∀ c,c∈r→SmallD N c):SmallD N (.sl sz rows)
structure Bulk (H:Type) where
 b:DataW H→Nat
 str:∀ s:List UInt8,s.length≤b (.lit (.string s))
 slice:∀ (elems spare:List (DataW H)) (d:DataW H),d∈elems→b d≤b (.slice elems spare)
 slen:∀ elems spare:List (DataW H),elems.length≤b (.slice elems spare)
 agg:∀ (parts:List (DataW H)) (d:DataW H),d∈parts→b d≤b (.agg parts)
def jZ {H:Type} (x:DataW H) (c:DV):Prop:=∀ (bk:Bulk H) (N:Nat),bk.b x≤N→SmallD N c
theorem qR {A:TypeId→List DV→Prop} {Q:DV→Prop}:∀ {fs:List (Nat×Nat×TypeId)} {cs:List DV},kf (fun t ds=>A t ds∧∀ c,c∈ds→Q c) fs cs→kf A fs cs∧∀ c,c∈cs→Q c
 |[],cs,h=>by have h:cs=[]:=h;subst h;exact ⟨rfl,by simp⟩
 | f::r,cs,h=>by
   obtain ⟨a,b,rfl,⟨h1,h2⟩,h3⟩:=h
   obtain ⟨h4,h5⟩:=qR h3
   exact ⟨⟨a,b,rfl,h1,h4⟩,fun c hc=>(List.mem_append.1 hc).elim (h2 c) (h5 c)⟩
def nw (ok:Nat→Prop) (w:World) (cs:List DV) (us:List Value):Prop:=
 us.length=cs.length∧∀ (j:Nat) (c:DV) (u:Value),cs[j]?=some c→us[j]?=some u→RepD ok w c u
theorem nw.append {ok:Nat→Prop} {w:World} {a b:List DV} {us vs:List Value} (h:nw ok w a us) (h2:nw ok w b vs):nw ok w (a++b) (us++vs):=by
 refine ⟨by simp [h.1,h2.1],fun j c u hc hu=>?_⟩
 by_cases hj:j<a.length
 ·rw [List.getElem?_append_left hj] at hc
  rw [List.getElem?_append_left (by rw [h.1];exact hj)] at hu
  exact h.2 j c u hc hu
 ·rw [List.getElem?_append_right (by omega)] at hc
  rw [List.getElem?_append_right (by rw [h.1];omega),h.1] at hu
  exact h2.2 _ c u hc hu
theorem RepD.nil_sl (ok:Nat→Prop) (w:World) (sz:Nat):RepD ok w (.sl sz []) (.slice none 0 0):=
 .sl sz [] none 0 (fun _ _=>undef) (by simp) (by simp) (by simp) (by simp)
theorem nw.one {ok:Nat→Prop} {w:World} {c:DV} {u:Value} (h:RepD ok w c u):nw ok w [c] [u]:=by
 refine ⟨rfl,fun j c' u' hc hu=>?_⟩
 match j with
 |0=>simp at hc hu;subst hc;subst hu;exact h
 |j+1=>simp at hc
section
variable {P:Program} {T:TypeId→TI} {H:Type} {enc:TypeId×Value→H} {w:World} {base:Nat} {spare:Nat→Bool} {held:Bool}
theorem kH (hT:an P T) {t:TypeId} (hk:(T t).kind≠.other):P.cellsOf t=(T t).size:=by
 obtain ⟨i,_,h1,h2,_⟩:=(aE hT hk).info
 simp [Program.cellsOf,h1,h2]
theorem wc (hT:an P T) {t:TypeId} (hk:(T t).kind≠.other):P.bytesOf t=(T t).bytes:=by
 obtain ⟨i,_,h1,_,h2,_⟩:=(aE hT hk).info
 simp [Program.bytesOf,h1,h2]
theorem kD {e:TypeId} {d:DataW H}:∀ {l:List (DataW H)},d∈l→∀ n,n∈d.weights P e→n∈DataW.weightsAll P e l
 |[],h,_,_=>by simp at h
 | x::l,h,n,hn=>by
   simp only [DataW.weightsAll,List.mem_append]
   rcases List.mem_cons.1 h with rfl|h
   ·exact .inl hn
   ·exact .inr (kD h n hn)
theorem ng {α β:Type} {f:α→Option β}:∀ {l:List α} {r:List β},l.mapM f=some r→r.length=l.length∧∀ (i:Nat) (x:α),l[i]?=some x→∃ y,r[i]?=some y∧f x=some y
 |[],r,h=>by simp at h;subst h;simp
 | x :: xs,r,h=>by
   rw [List.mapM_cons] at h
   cases hx:f x with
   |none=>simp [hx] at h
   | some y=>
     cases hxs:xs.mapM f with
     |none=>simp [hx,hxs] at h
     | some ys=>
       simp [hx,hxs] at h
       subst h
       have ih:=ng hxs
       refine ⟨by simp [ih.1],fun i z hz=>?_⟩
       match i with
       |0=>simp at hz;subst hz;exact ⟨y,by simp,hx⟩
       |i+1=>exact ih.2 i z (by simpa using hz)
theorem BG {a:Addr} {n:Nat} {cs:List Value} (h:w.cells? base a n=some cs):cs.length=n∧∀ i,i<n→w.cell? (a.add i)=cs[i]?∧(cs[i]?).isSome=true:=by
 unfold World.cells? at h
 split at h
 ·obtain ⟨h1,h2⟩:=ng h
  refine ⟨by simpa using h1,fun i hi=>?_⟩
  obtain ⟨y,hy,hc⟩:=h2 i i (by simp [hi])
  rw [hy];exact ⟨hc,rfl⟩
 ·cases h
theorem tr {b:Nat} {a:Addr} {v:Value} (_hb:a.block=b) (h:w.cell? a=some v):a.spot=none:=by
 cases hsp:a.spot with
 |none=>rfl
 | some s=>
   simp only [World.cell?] at h
   split at h
   ·simp [hsp] at h
   ·cases h
theorem Ik {a:Addr} {v:Value} (h:w.cell? a=some v):a.block<w.heap.size:=by
 simp only [World.cell?] at h
 rcases Nat.lt_or_ge a.block w.heap.size with h'|h'
 ·exact h'
 ·simp [Array.getElem?_eq_none h'] at h
theorem wS (a:Addr) (i:Nat) (h:(a.add i).spot=none):a.add i=⟨a.block,a.off+i,none⟩:=by
 unfold Addr.add at h ⊢
 split
 ·rename_i h0
  subst h0
  rw [if_pos rfl] at h
  cases a
  simp_all
 ·rfl
theorem pm {α:Type} {p:Nat→α→Prop}:∀ (n:Nat),(∀ i,i<n→∃ y,p i y)→∃ l:List α,l.length=n∧∀ (i:Nat) (y:α),l[i]?=some y→p i y
 |0,_=>⟨[],rfl,by simp⟩
 | n+1,h=>by
   obtain ⟨l,hl,hp⟩:=pm n fun i hi=>h i (by omega)
   obtain ⟨y,hy⟩:=h n (by omega)
   refine ⟨l++[y],by simp [hl],fun i z hz=>?_⟩
   rcases aA hz with ⟨h1,h2⟩|⟨h1,h2⟩
   ·exact hp i z h2
   ·subst h2;rw [h1,hl];exact hy
theorem pd {G:TypeId→DataW H×List MemPlace→Prop} {one:TypeId→List DV→Prop} {sup:TypeId→Bool} {r:TypeId→List Value→Option (DataW H×List MemPlace)} {ok:Nat→Prop} {N:Nat} {cs:List Value} (hN:cs.length=N)
  (hone:∀ t us y,sup t=true→r t us=some y→G t y→∃ ds,one t ds∧nw ok w ds us∧ds.length=(T t).size)
  (hcell:∀ t,sup t=true→P.cellsOf t=(T t).size):∀ (fs:List (Nat×Nat×TypeId)) (fields:List Field) (o:Nat),pi o fs N=true→fields.length=fs.length→
  (∀ (j:Nat) (o s t:Nat),fs[j]?=some (o,s,t)→∃ f,fields[j]?=some f∧f.offset=o∧f.type=t)→
  (∀ (j:Nat) (f:Field),fields[j]?=some f→∃ y,r f.type ((cs.drop f.offset).take (P.cellsOf f.type))=some y∧G f.type y)→
  (∀ x,x∈fs→(T x.2.2).size=x.2.1∧sup x.2.2=true)→∃ ds,kf one fs ds∧nw ok w ds (cs.drop o)∧ds.length=N-o
 | [],fields,o,ht,_,_,_,_=>by
   simp only [pi,beq_iff_eq] at ht
   subst ht
   exact ⟨[],rfl,⟨by simp [hN],by simp⟩,by simp⟩
 |(o',s,t)::fs,[],o,ht,hl,_,_,_=>by simp at hl
 | (o',s,t)::fs,f::fields,o,ht,hl,hf,hr,hx=>by
   simp only [pi,Bool.and_eq_true,beq_iff_eq] at ht
   obtain ⟨ho,ht⟩:=ht
   subst ho
   obtain ⟨f',hf1,hf2,hf3⟩:=hf 0 o' s t rfl
   simp at hf1
   subst hf1
   obtain ⟨y,hy,hwy⟩:=hr 0 f rfl
   obtain ⟨hsz,hsup⟩:=hx (o',s,t) (by simp)
   simp only at hsz hsup
   rw [hf2,hf3,hcell t hsup,hsz] at hy
   rw [hf3] at hwy
   obtain ⟨d1,a1,a2,a3⟩:=hone t _ y hsup hy hwy
   obtain ⟨d2,b1,b2,b3⟩:=pd hN hone hcell fs fields (o'+s) ht (by simpa using hl) (fun j o s t hj=>hf (j+1) o s t (by simpa using hj)) (fun j g hj=>hr (j+1) g (by simpa using hj)) fun x hxm=>hx x (by simp [hxm])
   have hle:∀ (fs:List (Nat×Nat×TypeId)) (o:Nat),pi o fs N=true→o≤N:=by
    intro fs
    induction fs with
    |nil=>intro o h;simp [pi] at h;omega
    | cons x fs ih=>
      intro o h
      obtain ⟨a,b,c⟩:=x
      simp only [pi,Bool.and_eq_true,beq_iff_eq] at h
      have:=ih _ h.2
      omega
   have:=hle _ _ ht
   refine ⟨d1++d2,⟨d1,d2,rfl,a1,b1⟩,?_,by simp [a3,b3,hsz];omega⟩
   have e:cs.drop o'=(cs.drop o').take s++cs.drop (o'+s):=by rw [←List.drop_drop,List.take_append_drop]
   rw [e]
   exact a2.append b2
theorem oa (hT:an P T):∀ (m n:Nat) (t:TypeId) (cs:List Value) (x:DataW H×List MemPlace),kJ T m t=true→DataW.trod enc P w base spare held n t cs=some x→(∀ n,n∈x.1.weights P t→n≤reachBytes)→
  ∃ ds,(dY T m t ds∧∀ c,c∈ds→jZ x.1 c)∧nw (·<w.heap.size) w ds cs∧ds.length=(T t).size
 |0,_,_,_,_,hs,_,_=>by simp [kJ] at hs
 |m+1,0,_,_,_,_,h,_=>by simp [DataW.trod] at h
 | m + 1,n+1,t,cs,x,hs,h,hwt=>by
   rw [DataW.trod_step] at h
   unfold DataW.trodStep at h
   simp only [kJ] at hs
   simp only [dY]
   split at hs
   ·rename_i hk
    simp only [hk,qd hT hk] at h ⊢
    split at h<;>first|(exfalso;cases h;done)|(rename_i he;exfalso;cases he;done)|skip
    ·rename_i b he
     cases he
     exact ⟨[.bool b],⟨⟨b,rfl⟩,fun c hc bk N _=>by simp at hc;subst hc;exact .bool b⟩,.one (.bool b),by simp at hs;simp [hs]⟩
   ·rename_i hk
    simp only [hk,fa hT hk] at h ⊢
    split at h<;>first|(exfalso;cases h;done)|(rename_i he;exfalso;cases he;done)|skip
    ·rename_i s he
     cases he
     split at h
     ·rename_i hl
      refine ⟨[.str s.data.toList],⟨⟨_,rfl,by cases h;exact hwt _ (by simp [DataW.weights])⟩,fun c hc bk N hN=>by
       simp at hc;subst hc;cases h;exact .str _ (Nat.le_trans (bk.str _) hN)⟩,.one ?_,by simp at hs;simp [hs]⟩
      have:=RepD.str (ok:=(·<w.heap.size)) (w:=w) s.data.toList
      simpa [aG] using this
     ·cases h
   ·rename_i k hk
    simp only [hk,lh hT hk] at h ⊢
    split at h<;>first|(exfalso;cases h;done)|(rename_i he;exfalso;cases he;done)|skip
    ·rename_i k2 v he
     cases he
     split at h
     ·rename_i hc
      obtain ⟨rfl,hw⟩:=hc
      exact ⟨[.int _ v],⟨⟨v,rfl,hw⟩,fun c hc bk N _=>by simp at hc;subst hc;exact .int _ v⟩,.one (.int _ v),by simp at hs;simp [hs]⟩
     ·cases h
   ·rename_i e hk
    simp only [Bool.and_eq_true,beq_iff_eq,decide_eq_true_eq] at hs
    obtain ⟨⟨hs1,hs2⟩,hs3⟩:=hs
    simp only [hk,aw hT hk] at h ⊢
    split at h<;>first|(exfalso;cases h;done)|(rename_i he;exfalso;cases he;done)|skip
    ·exact ⟨[.sl (T e).size []],⟨⟨[],rfl,by simp,by simp,by simp⟩,fun c hc bk N _=>by simp at hc;subst hc;exact .sl _ _ (by simp) (by simp)⟩,.one (RepD.nil_sl _ _ _),by simp [hs1]⟩
    ·rename_i e' a len cap he
     cases he
     split at h
     ·rename_i hc
      obtain ⟨hb,hl,hm⟩:=hc
      simp only [Option.map_eq_some_iff,Option.bind_eq_some_iff] at h
      obtain ⟨elems,hel,rest,hrest,hx⟩:=h
      subst hx
      obtain ⟨hlen,hget⟩:=ng hel
      simp only [DataW.weights,aw hT hk] at hwt
      have hke:(T e).kind≠.other:=by
       intro he
       cases m with
       |zero=>simp [kJ] at hs3
       |succ m=>simp [kJ,he] at hs3
      have hce:=kH hT hke
      have each:∀ i,i<len→∃ r:List DV,(dY T m e r∧∀ c,c∈r→jZ (.slice (elems.map (·.1)) (rest.map (·.1))) c)∧r.length=(T e).size∧∀ (j:Nat) (c:DV),r[j]?=some c→∃ u,w.cell? ⟨a.block,a.off+(i*(T e).size+j),none⟩=some u∧RepD (·<w.heap.size) w c u∧(i=0→a.spot=none)∧a.block<w.heap.size:=by
       intro i hi
       obtain ⟨y,hye,hy⟩:=hget i i (by simp [hi])
       have hwy:∀ n,n∈y.1.weights P e→n≤reachBytes:=fun n hn=>hwt n (List.mem_cons_of_mem _ (List.mem_append_left _ (kD (List.mem_map.2 ⟨y,List.mem_of_getElem? hye,rfl⟩) n hn)))
       simp only [Option.bind_eq_some_iff] at hy
       obtain ⟨cs',hcs,hy⟩:=hy
       obtain ⟨ds,h1,h2,h3⟩:=oa hT m n e cs' y hs3 hy hwy
       refine ⟨ds,⟨h1.1,fun c hc bk N hN=>h1.2 c hc bk N (Nat.le_trans (bk.slice _ _ _ (List.mem_map.2 ⟨y,List.mem_of_getElem? hye,rfl⟩)) hN)⟩,h3,fun j c hj=>?_⟩
       obtain ⟨q1,q2⟩:=BG hcs
       have hjl:j<P.cellsOf e:=by rw [hce,←h3];exact (List.getElem?_eq_some_iff.1 hj).1
       obtain ⟨q3,q4⟩:=q2 j hjl
       obtain ⟨u,hu⟩:=Option.isSome_iff_exists.1 q4
       rw [hu] at q3
       have s2:(a.add (i*P.cellsOf e)).spot=none:=by
        obtain ⟨q5,q6⟩:=q2 0 (by omega)
        obtain ⟨u0,hu0⟩:=Option.isSome_iff_exists.1 q6
        rw [hu0] at q5
        have:=tr rfl q5
        simpa [Addr.add] using this
       have hlt:a.block<w.heap.size:=by
        have:=Ik q3
        rwa [show ((a.add (i*P.cellsOf e)).add j).block=a.block from by unfold Addr.add;split<;>split<;>rfl] at this
       have s1:((a.add (i*P.cellsOf e)).add j).spot=none:=tr rfl q3
       rw [wS _ _ s1,wS _ _ s2] at q3
       exact ⟨u,by rw [←hce,←q3];simp [Nat.add_assoc],h2.2 j c u hj hu,(fun h0=>by subst h0;simpa [Addr.add] using s2),hlt⟩
      obtain ⟨rows,hrl,hrows⟩:=pm (p:=fun i r=>(dY T m e r∧∀ c,c∈r→jZ (.slice (elems.map (·.1)) (rest.map (·.1))) c)∧r.length=(T e).size∧∀ (j:Nat) (c:DV),r[j]?=some c→∃ u,w.cell? ⟨a.block,a.off+(i*(T e).size+j),none⟩=some u∧RepD (·<w.heap.size) w c u∧(i=0→a.spot=none)∧a.block<w.heap.size) len each
      subst hrl
      have hbytes:rows.length*(T e).bytes≤140737488351232:=by
       have h0:=hwt _ List.mem_cons_self
       rw [wc hT hke,List.length_map,List.length_map,hlen,List.length_range] at h0
       refine Nat.le_trans (Nat.mul_le_mul_right _ (Nat.le_add_right _ _)) h0
      have hmax:rows.length≤9223372036854775807:=by unfold maxLen at hm;omega
      have hmem:∀ r,r∈rows→∃ i,rows[i]?=some r:=fun r hr=>List.mem_iff_getElem?.1 hr
      refine ⟨[.sl (T e).size rows],⟨⟨rows,rfl,hbytes,hmax,fun r hr=>?_⟩,fun c hc bk N hN=>?_⟩,.one (.sl (T e).size rows (some a) cap (fun i j=>(w.cell? ⟨a.block,a.off+(i*(T e).size+j),none⟩).getD undef) hl (fun r hr=>?_) (fun hp=>?_) fun i r hi j c hj=>?_),by simp [hs1]⟩
      ·obtain ⟨i,hi⟩:=hmem r hr;exact (hrows i r hi).1.1
      ·simp at hc;subst hc
       refine .sl _ _ ?_ fun r hr c hc=>?_
       ·have h4:bk.b (.slice (elems.map (·.1)) (rest.map (·.1)))≤N:=hN
        have h5:=bk.slen (elems.map (·.1)) (rest.map (·.1))
        have h6:=hlen
        rw [List.length_map] at h5
        rw [List.length_range] at h6
        omega
       ·obtain ⟨i,hi⟩:=hmem r hr;exact (hrows i r hi).1.2 c hc bk N hN
      ·obtain ⟨i,hi⟩:=hmem r hr;exact (hrows i r hi).2.1
      ·have h0:=hrows 0 rows[0] (List.getElem?_eq_getElem hp)
       obtain ⟨u,_,_,h3,h4⟩:=h0.2.2 0 (rows[0][0]'(by rw [h0.2.1];exact hs2)) (List.getElem?_eq_getElem _)
       refine ⟨a.block,a.off,by have:=h3 rfl;cases a;simp_all,h4,fun i r hi j c hj=>?_⟩
       obtain ⟨u,hu,_⟩:=(hrows i r hi).2.2 j c hj
       rw [hu];rfl
      ·obtain ⟨u,hu,hr,_⟩:=(hrows i r hi).2.2 j c hj
       rw [hu];exact hr
     ·cases h
   ·rename_i fs hk
    simp only [Bool.and_eq_true] at hs
    obtain ⟨hs1,hs2⟩:=hs
    obtain ⟨fields,hu,hfs,hf⟩:=gN hT hk
    simp only [hk,hu] at h ⊢
    split at h<;>first|(exfalso;cases h;done)|(rename_i he;exfalso;cases he;done)|skip
    ·rename_i hlen
     simp only [Option.map_eq_some_iff] at h
     obtain ⟨xs,hxs,hx⟩:=h
     subst hx
     simp only [DataW.weights,hu] at hwt
     obtain ⟨hxl,hxg⟩:=ng hxs
     have hco:∀ t',kJ T m t'=true→P.cellsOf t'=(T t').size:=fun t' ht'=>kH hT (by
      intro he
      cases m with
      |zero=>simp [kJ] at ht'
      |succ m=>simp [kJ,he] at ht')
     have hct:P.cellsOf t=(T t).size:=kH hT (by rw [hk];simp)
     obtain ⟨ds,h1,h2,h3⟩:=pd (P:=P) (T:=T) (w:=w) (G:=fun t' y=>(∀ n,n∈y.1.weights P t'→n≤reachBytes)∧∀ bk:Bulk H,bk.b y.1≤bk.b (.agg (xs.map (·.1)))) (one:=fun t' ds=>dY T m t' ds∧∀ c,c∈ds→jZ (.agg (xs.map (·.1))) c) (sup:=kJ T m) (r:=DataW.trod enc P w base spare held n) (ok:=(·<w.heap.size)) (N:=(T t).size) (cs:=cs) (hlen.trans hct)
      (fun t' us y hs' hy hwy=>by
       obtain ⟨ds,h1,h2⟩:=oa hT m n t' us y hs' hy hwy.1
       exact ⟨ds,⟨h1.1,fun c hc bk N hN=>h1.2 c hc bk N (Nat.le_trans (hwy.2 bk) hN)⟩,h2⟩) hco fs fields.toList 0 hs1 (by simpa using hfs)
      (fun j o s t' hj=>by
       obtain ⟨f,q1,q2,q3,_⟩:=hf j o s t' hj
       exact ⟨f,by simpa using q1,q2,q3⟩)
      (fun j f hj=>by
       obtain ⟨y,hye,hy⟩:=hxg j f (by simpa using hj)
       exact ⟨y,hy,fun n hn=>hwt n (DataW.weights_mem_each (j:=j) (t:=f.type) (d:=y.1) (by simp at hj ⊢;exact ⟨f,hj,rfl⟩) (by simp [hye]) n hn),fun bk=>bk.agg _ _ (List.mem_map.2 ⟨y,List.mem_of_getElem? hye,rfl⟩)⟩)
      (fun x hx=>by
       have:=List.all_eq_true.1 hs2 x hx
       simp only [Bool.and_eq_true,beq_iff_eq] at this
       exact this)
     exact ⟨ds,qR h1,by simpa using h2,by simpa using h3⟩
   ·simp at hs
end
open Go Go.RowKit Go.ChangeShapes Go.WideShapes Go.ChangeAt
section
variable {H:Type} {enc:TypeId×Value→H} {P:Program} {T:TypeId→TI}
theorem yB {f:Func} {s:ChangeSpec} {apart fresh handsOn again:Bool} {W W':World} {args:Array Value} {v:Value} {ds gs:List (DataW H)} {before pa pv:List MemPlace}
  (hW:DataW.Whole enc P f.params.toList s.vars apart W args.toList ds gs before)
  (hres:∀ (b:Nat) (sp:Nat→Bool) (hd:Bool),DataW.TrodAll enc P W' b sp hd f.resultTypes.toList (v.resultList f.resultTypes.size) (s.fn H (ds++gs)).results [])
  (hargs:∀ sp:Nat→Bool,(∀ p∈before,sp p.block=true)→DataW.TrodAll enc P W' 0 sp true f.params.toList args.toList (s.fn H (ds++gs)).args pa)
  (hvars:∀ sp:Nat→Bool,(∀ p∈before,sp p.block=true)→DataW.TrodVars enc P W' sp s.vars (s.fn H (ds++gs)).vars pv)
  (hps:before=pa++pv) (hb:Below W.heap.size W W')
  (hok:∀ (j:Nat) (t:TypeId) (r:Value),f.resultTypes[j]?=some t→(v.resultList f.resultTypes.size)[j]?=some r→Value.okWide P W' .any 0 t r) :
  s.post enc P f apart fresh handsOn again W args v W':=by
 have hlt:∀ p∈before,p.block<W.heap.size:=fun p hp=>hW.lt p hp
 have hold:∀ p∈before,(fun b=>decide (b<W.heap.size)) p.block=true:=fun p hp=>by simpa using hlt p hp
 refine ⟨ds,gs,before,[],pa,pv,hW,hres _ _ _,hargs _ hold,hvars _ hold,World.keptBut_mono (fun p hp=>⟨hp,?_⟩) (hb.frame (·∈before)),fun _=>?_⟩
 ·rw [hps,List.mem_append] at hp
  exact Or.inr hp
 ·obtain ⟨_,_,_,_,_,hz,hn⟩:=hW
  refine ⟨hok,_,_,([]++pa)++pv,⟨[]++pa,pv,trodAll_append (hargs _ (fun _ _=>rfl)) (hres _ _ _),hvars _ (fun _ _=>rfl),rfl,?_,?_⟩,?_⟩
  ·intro b off hp
   have hin:MemPlace.cell b off∈before:=by rw [hps];simpa using hp
   rw [hb.frozen (hlt _ hin)]
   exact hz b off hin
  ·intro ha
   have:=hn ha
   rw [hps] at this
   simpa using this
  ·intro p hp _
   rw [hps]
   simpa using hp
def EU (ti:TI) (ds:List DV):AV:=
 match ti.agg,ds with
 |true,ds=>.agg (ds.map .d)
 |false,[x]=>.d x
 |false,_=>.any
def rC (T:TypeId→TI) (m:Nat):List TypeId→List (List DV)→Prop
 |[],dss=>dss=[]
 |t::r,dss=>∃ d ds,dss=d::ds∧dY T m t d∧rC T m r ds
def m5 (T:TypeId→TI):List TypeId→List (List DV)→List AV
 |t::r,d::ds=>EU (T t) d::m5 T r ds
 |_,_=>[]
theorem Ef (hT:an P T) {m:Nat} {t:TypeId} (hs:kJ T m t=true) {W:World} {b0:Nat} {v:Value} (hval:Value.okWide P W .any b0 t v) :
  ((T t).agg=true∧∃ us,v=.agg us)∨((T t).agg=false∧v.cells=#[v]∧(T t).size=1):=by
 cases m with
 |zero=>simp [kJ] at hs
 | succ m=>
   simp only [kJ] at hs
   split at hs
   ·rename_i hk
    obtain ⟨b,rfl⟩:=okWide_bool (qd hT hk) hval
    exact .inr ⟨by simp [TI.agg,hk],rfl,by simpa using hs⟩
   ·rename_i hk
    obtain ⟨b,rfl⟩:=okWide_string (fa hT hk) hval
    exact .inr ⟨by simp [TI.agg,hk],rfl,by simpa using hs⟩
   ·rename_i k hk
    obtain ⟨b,rfl⟩:=okWide_int (lh hT hk) hval
    exact .inr ⟨by simp [TI.agg,hk],rfl,by simpa using hs⟩
   ·rename_i e hk
    obtain ⟨a,l,c,rfl⟩:=okWide_slice (aw hT hk) hval
    simp only [Bool.and_eq_true,beq_iff_eq] at hs
    exact .inr ⟨by simp [TI.agg,hk],rfl,hs.1.1⟩
   ·rename_i fs hk
    obtain ⟨fields,hu,_⟩:=gN hT hk
    simp only [Value.okWide,hu] at hval
    obtain ⟨cs,rfl,_⟩:=hval
    exact .inl ⟨by simp [TI.agg,hk],cs,rfl⟩
   ·simp at hs
theorem I8 (hT:an P T) {m:Nat} {t:TypeId} (hs:kJ T m t=true) {W:World} {b0:Nat} {v:Value} (hval:Value.okWide P W .any b0 t v) {ok:Nat→Prop} (hok:∀ b,b<W.heap.size→ok b)
  {d:DataW H} {p:List MemPlace} {base:Nat} {sp:Nat→Bool} {held:Bool} (h:DataW.Trod enc P W base sp held t v d p) (hw:∀ n,n∈d.weights P t→n≤reachBytes):∃ ds,(dY T m t ds∧∀ c,c∈ds→jZ d c)∧RepV [] ok W (EU (T t) ds) v:=by
 obtain ⟨n,h⟩:=h
 obtain ⟨ds,h1,h2,h3⟩:=oa hT m n t _ _ hs h hw
 refine ⟨ds,h1,?_⟩
 have hmono:∀ b,b<W.heap.size→ok b∧W.heap[b]?=W.heap[b]?:=fun b hb=>⟨hok b hb,rfl⟩
 rcases Ef hT hs hval with ⟨ha,us,rfl⟩|⟨ha,hv,hsz⟩
 ·simp only [EU,ha]
  have hl:=h2.1
  simp only [Value.cells] at h2 hl
  have:=RepV.agg (ρ:=[]) (ok:=ok) (w:=W) (ds.map .d) us.toList (by simpa using hl) (fun u hu=>?_) (fun j c u hc hu=>?_)
  ·simpa using this
  ·obtain ⟨j,hj⟩:=List.mem_iff_getElem?.1 hu
   have hjl:j<ds.length:=by rw [←hl];exact (List.getElem?_eq_some_iff.1 hj).1
   exact (h2.2 j _ u (List.getElem?_eq_getElem hjl) hj).one
  ·rw [List.getElem?_map] at hc
   obtain ⟨x,hx,rfl⟩:=Option.map_eq_some_iff.1 hc
   exact .d _ _ ((h2.2 j x u hx hu).mono hmono)
 ·rw [hsz] at h3
  match ds,h3,h2 with
  | [x],_,h2=>
    simp only [EU,ha]
    rw [hv] at h2
    exact .d _ _ ((h2.2 0 x v rfl rfl).mono hmono)
theorem wm (hT:an P T) {m:Nat} {W:World} {b0:Nat} {ok:Nat→Prop} (hok:∀ b,b<W.heap.size→ok b) {base:Nat} {sp:Nat→Bool} {held:Bool} :
  ∀ (ts:List TypeId) (vs:List Value) (ds:List (DataW H)) (p:List MemPlace),(ts.all fun t=>kJ T m t)=true→(∀ (j:Nat) t v,ts[j]?=some t→vs[j]?=some v→Value.okWide P W .any b0 t v)→
  DataW.TrodAll enc P W base sp held ts vs ds p→(∀ n,n∈DataW.weightsEach P ts ds→n≤reachBytes)→∃ dss,(rC T m ts dss∧∀ (bk:Bulk H) (N:Nat),(∀ d,d∈ds→bk.b d≤N)→∀ cs,cs∈dss→∀ c,c∈cs→SmallD N c)∧fJ [] ok W (m5 T ts dss) vs
 |[],[],[],_,_,_,_,_=>⟨[],⟨rfl,by simp⟩,rfl,by simp [m5]⟩
 | t :: ts,v::vs,d::ds,p,hs,hval,h,hw=>by
   obtain ⟨p1,p2,h1,h2,_⟩:=h
   simp only [List.all_cons,Bool.and_eq_true] at hs
   obtain ⟨x,a1,a2⟩:=I8 hT hs.1 (hval 0 t v rfl rfl) hok h1 (fun n hn=>hw n (List.mem_append_left _ hn))
   obtain ⟨xs,b1,b2,b3⟩:=wm hT hok ts vs ds p2 hs.2 (fun j t v ht hv=>hval (j+1) t v (by simpa using ht) (by simpa using hv)) h2 (fun n hn=>hw n (List.mem_append_right _ hn))
   refine ⟨x::xs,⟨⟨x,xs,rfl,a1.1,b1.1⟩,fun bk N hN cs hcs c hc=>?_⟩,by simp [m5,b2],fun j c u hc hu=>?_⟩
   ·rcases List.mem_cons.1 hcs with e|e
    ·subst e;exact a1.2 c hc bk N (hN d (List.mem_cons_self ..))
    ·exact b1.2 bk N (fun d' hd'=>hN d' (List.mem_cons_of_mem _ hd')) cs e c hc
   match j with
   |0=>simp [m5] at hc hu;subst hc;subst hu;exact a2
   |j+1=>exact b3 j c u (by simpa [m5] using hc) (by simpa using hu)
 |[],[],_::_,_,_,_,h,_=>by simp [DataW.TrodAll] at h
 |[],_::_,_,_,_,_,h,_=>by simp [DataW.TrodAll] at h
 |_::_,[],_,_,_,_,h,_=>by simp [DataW.TrodAll] at h
 |_::_,_::_,[],_,_,_,h,_=>by simp [DataW.TrodAll] at h
theorem ru (hl:laidOutB P=true) {W W':World} {sp':Nat→Bool} (hb:Below W.heap.size W W'):∀ (ts:List TypeId) (vs:List Value) (ds:List (DataW H)) (p:List MemPlace),
  (∀ t∈ts,P.readableRec t=true∧t<P.types.size)→(∀ x∈p,x.block<W.heap.size)→(∀ x∈p,sp' x.block=true)→DataW.TrodAll enc P W 0 (fun _=>true) true ts vs ds p→DataW.TrodAll enc P W' 0 sp' true ts vs ds p
 |[],[],[],_,_,_,_,h=>h
 | t :: ts,v::vs,d::ds,p,hr,hlt,hs,h=>by
   obtain ⟨p1,p2,h1,h2,rfl⟩:=h
   have ht:=hr t (by simp)
   exact ⟨p1,p2,WideElems.Trod_stays hl ht.1 ht.2 h1 (fun x hx=>hb.same (hlt x (by simp [hx]))) (fun x hx=>hs x (by simp [hx])),
    ru hl hb ts vs ds p2 (fun t ht=>hr t (by simp [ht])) (fun x hx=>hlt x (by simp [hx])) (fun x hx=>hs x (by simp [hx])) h2,rfl⟩
 |[],[],_::_,_,_,_,_,h=>by simp [DataW.TrodAll] at h
 |[],_::_,_,_,_,_,_,h=>by simp [DataW.TrodAll] at h
 |_::_,[],_,_,_,_,_,h=>by simp [DataW.TrodAll] at h
 |_::_,_::_,[],_,_,_,_,h=>by simp [DataW.TrodAll] at h
theorem tT {W:World} {base:Nat} {sp:Nat→Bool} {held:Bool}:∀ (ts:List TypeId) (vs:List Value) (ds:List (DataW H)) (p:List MemPlace),DataW.TrodAll enc P W base sp held ts vs ds p→ds.length=ts.length
 |[],[],[],_,_=>rfl
 |_::ts,_::vs,_::ds,_,⟨_,q,_,h,_⟩=>by simp [tT ts vs ds q h]
 |[],[],_::_,_,h=>by simp [DataW.TrodAll] at h
 |[],_::_,_,_,h=>by simp [DataW.TrodAll] at h
 |_::_,[],_,_,h=>by simp [DataW.TrodAll] at h
 |_::_,_::_,[],_,h=>by simp [DataW.TrodAll] at h
theorem EH (hT:an P T) (hl:laidOutB P=true) {g:FuncId} {fn:Func} {s:ChangeSpec} {m:Nat} {tb:TypeId}
  (hps:(fn.params.toList.all fun t=>kJ T m t)=true) (hrd:(fn.params.toList.all fun t=>P.readableRec t&&decide (t<P.types.size))=true)
  (hres:fn.resultTypes=#[tb]) (hb:P.underlying tb=some .bool) (hvars:s.vars=[])
  (hs:∀ ds:List (DataW H),ds.length=fn.params.size→s.fn H ds={ results:=[.lit (.bool true)],args:=ds })
  {apart fresh handsOn again:Bool} {W:World} {base:Nat} {args:Array Value} {ds gs:List (DataW H)} {before:List MemPlace}
  (hc:∀ dss,rC T m fn.params.toList dss→(∀ (bk:Bulk H) (N:Nat),(∀ d,d∈ds++gs→bk.b d≤N)→∀ cs,cs∈dss→∀ c,c∈cs→SmallD N c)→ab P [] g (m5 T fn.params.toList dss) (fun v _=>v=B true))
  (ht:d7 W) (hval:∀ (j:Nat) (t:TypeId) (v:Value),fn.params[j]?=some t→args[j]?=some v→Value.okWide P W .any base t v)
  (hW:DataW.Whole enc P fn.params.toList s.vars apart W args.toList ds gs before)
  (hwt:(DataW.weightsEach P (fn.params.toList++s.plain.varTypes P) (ds++gs)).all (·≤reachBytes)=true) :
  Calls P g args W fun e W'=>∃ v,e=.returned v∧s.post enc P fn apart fresh handsOn again W args v W':=by
 have hW':=hW
 obtain ⟨p,q,hA,hV,rfl,hfz,hnd⟩:=hW
 rw [hvars] at hV
 obtain ⟨rfl,rfl⟩:=trodVars_none hV
 have hlen:=tT _ _ _ _ hA
 let E:Ent:={ w0:=W,L0:=fun _=>False,S0:=(·<W.heap.size),ρ0:=[],hS:=fun b hb=>⟨hb,fun h=>h⟩,hL:=fun b hb=>hb.elim,hT:=ht,hTL:=fun _ _ h=>h }
 have hH:RepH E [] [] W:=⟨rfl,by simp,by simp,by simp,Fr.refl _ _⟩
 obtain ⟨dss,h1,h2⟩:=wm (ok:=okB E [] [] W) hT (fun b hb=>⟨.inl hb,hb,fun ⟨k,x,m,hk,_⟩=>by simp at hk⟩) fn.params.toList args.toList ds p hps (fun j t v ht hv=>hval j t v (by simpa using ht) (by simpa using hv)) hA
  (fun n hn=>by
   have hv0:s.plain.varTypes P=[]:=by simp [DataSpec.varTypes,ChangeSpec.plain,hvars]
   rw [hv0,List.append_nil,List.append_nil] at hwt
   simpa using List.all_eq_true.1 hwt n hn)
 have hcall:=(hc dss h1.1 (fun bk N hN=>h1.2 bk N fun d hd=>hN d (List.mem_append_left _ hd))).2 E W args.toList rfl hH h2
 rw [show args.toList.toArray=args from by simp] at hcall
 refine hcall.mono fun e W' hh=>?_
 obtain ⟨u,v,hp',ρ',rfl,hv,hR,_,hu⟩:=hh
 subst hv
 have hu:u=.bool true:=by cases hu with|d _ _ h=>cases h;rfl
 subst hu
 have hbel:Below W.heap.size W W':=⟨hR.fr.os,hR.fr.tape,hR.fr.output,hR.fr.size,fun b hb=>hR.fr.block b hb (fun h=>h)⟩
 have hsd:=hs ds (by simpa using hlen)
 have hlt:∀ x∈p,x.block<W.heap.size:=fun x hx=>hA.lt x hx
 refine ⟨_,rfl,yB (pa:=p) (pv:=[]) hW' (fun _ _ _=>?_) (fun sp hsp=>?_) (fun _ _=>?_) rfl hbel ?_⟩
 ·rw [List.append_nil,hsd,hres]
  exact trodAll_mk1 (shut_bool hb _)
 ·rw [List.append_nil,hsd]
  refine ru hl hbel _ _ _ _ (fun t ht=>?_) hlt (fun x hx=>hsp x (by simpa using hx)) hA
  have:=List.all_eq_true.1 hrd t ht
  simpa using this
 ·rw [hvars,List.append_nil,hsd];rfl
 ·rw [hres]
  exact fun j t r hj hr=>ok_one (by rw [hres]) rfl (okWide_bool_mk hb _) j t r (by rw [hres];exact hj) (by rw [hres];exact hr)
end
open Go Go.RowKit
def ret (x:AV):AV→List ABlk→Prop:=fun v hp=>v=x∧hp=[]
section
variable {P:Program} {hp:List ABlk} {g:FuncId} {xs ys:List AV} {x:AV} {u0:Value} {K:AV→List ABlk→Prop}
mutual
theorem k7 (f:Nat→Nat):∀ (x:AV),bY x→renV f x=x∧inV 0 x
 |.d _,_=>⟨rfl,trivial⟩
 |.agg cs,h=>⟨by simp only [renV];rw [(dB f cs h).1],(dB f cs h).2⟩
 |.tup cs,h=>⟨by simp only [renV];rw [(dB f cs h).1],(dB f cs h).2⟩
 |.dp _ _,_=>⟨rfl,trivial⟩
 |.any,_=>⟨rfl,trivial⟩
 |.ptr _ _,h=>h.elim
 |.rp _ _ _ _,h=>h.elim
 |.osl _ _ _ _,h=>h.elim
 |.clo _ _ _,h=>h.elim
 |.gd _ _,h=>h.elim
theorem dB (f:Nat→Nat):∀ (l:List AV),cA l→renL f l=l∧inL 0 l
 |[],_=>⟨rfl,trivial⟩
 |x::l,h=>⟨by simp only [renL];rw [(k7 f x h.1).1,(dB f l h.2).1],(k7 f x h.1).2,(dB f l h.2).2⟩
end
theorem qA {bl:List ABlk} {np:Nat} {t:Tok K} (c:ab P [] g ys (fun v h=>v=x∧h=bl)) (hq:np=0∨cW xs=[]) (e:fT (cI hp xs) ys) (hf:bH hp xs) (hn:cA (cI hp xs))
  (hK:K (renV (br [] (killIds (cW xs) hp).length) x) (killIds (cW xs) hp++dh (br [] (killIds (cW xs) hp).length) bl)):bZ P np hp g xs K t:=by
 have hi:=dB (mAt [] (killIds (cW xs) hp).length) (cI hp xs) hn
 have c2:=pf (hp:=killIds (cW xs) hp) (K:=K) (c.coe e) hi.2 hi.1 fun v hp' h=>by
  obtain ⟨rfl,rfl⟩:=h
  exact hK
 refine .inl ⟨c.1,fun E ρ w us hnp hH hus=>?_⟩
 have hs:=HStep.killIds hH (cW xs)
 have hus':fJ ρ (okB E ρ (killIds (cW xs) hp) w) w (cI hp xs) us:=by
  refine ⟨by rw [dX];exact hus.1,fun j y u hy hu=>?_⟩
  have hy0:=hy
  rw [dD] at hy
  obtain ⟨z,hz,rfl⟩:=Option.map_eq_some_iff.1 hy
  have hzr:=hus.2 j z u hz hu
  rcases hq with h0|h0
  ·exact vD hH (List.eq_nil_of_length_eq_zero (by rw [hnp];exact h0)) hzr (fun k hk=>iY hz hk) (dr hf hz) (cG hn hy0)
  ·have:=lb hH.blks (fun b hb=>(hs.ok b hb).1) hzr (fun k hk=>by have:=iY hz hk;rw [h0] at this;cases this) (dr hf hz) (cG hn hy0)
   exact gE (fun b hb=>⟨hb,rfl⟩) this (cG hn hy0)
 refine (c2.2 E ρ w us hs.heap hus').mono fun e w' ⟨u,v,hp',ρ',h1,h2,h3,h4⟩=>⟨u,v,hp',ρ',h1,h2,hs.trans h3,h4⟩
theorem acallH_sc {np:Nat} (c:ab P [] g ys (ret x)) (e:cI hp xs=ys) (hsc:aW x=some u0) (hf:bH hp xs) (hn:cA ys) {t:Tok K} (hK:K x hp):bZ P np hp g xs K t:=by
 subst e
 exact gV (pb (c.mono fun v hp' h=>h.1) hsc hf hn hK)
theorem Ao {np:Nat} (c:ab P [] g ys (ret x)) (e:fT (cI hp xs) ys) (hsc:aW x=some u0) (hf:bH hp xs) (hn:cA (cI hp xs)) {t:Tok K} (hK:K x hp):bZ P np hp g xs K t:=
 gV (pb ((c.coe e).mono fun v hp' h=>h.1) hsc hf hn hK)
theorem lu {np:Nat} (c:ab P [] g ys (ret x)) (e:xs=ys) (hargs:inL 0 ys) (hid:renL (mAt [] hp.length) ys=ys) (hx:renV (br [] hp.length) x=x) {t:Tok K} (hK:K x hp):bZ P np hp g xs K t:=by
 subst e
 refine gV (pf c hargs hid fun v hp' h=>?_)
 obtain ⟨rfl,rfl⟩:=h
 rw [hx]
 simpa [dh] using hK
theorem acallQ_sc {K:AV→Prop} (c:ab P [] g ys (ret x)) (e:cI hp xs=ys) (hsc:aW x=some u0) (hf:bH hp xs) (hn:cA ys) {t:Tok K} (hK:K x):lf P hp g xs K t:=by
 subst e
 exact ⟨x,.inl (nU (c.mono fun v hp' h=>h.1) hsc hf hn),hK⟩
theorem ja {T:TypeId→TI} {s:ASt} {e:Exit} {rs:List ResultVar} (he:e=.ret∨e=.normal) (h0:s.np=0) (h1:(aR T s rs).1)
  (h2:bE s.hp (cQ (aR T s rs).2)) (h3:bY (aY s.hp (cQ (aR T s rs).2))) (hR:aY s.hp (cQ (aR T s rs).2)=x):me T rs (ret x) e s:=
 Dn he h0 h1 h2 h3 ⟨hR,rfl⟩
abbrev okI (n:Int):Prop:=-9223372036854775808≤n∧n≤9223372036854775807
theorem ve (n:Int) (h:okI n):IntKind.i64.wrap n=n:=by rw [IntKind.wrap_i64];unfold okI at h;omega
end
def iq (env:List (Nat×AV)):List Nat→List (Nat×AV)
 |[]=>[]
 |t::r=>(t,bS env t)::iq env r
def gH (env:List (Nat×AV)):List (Nat×AV)→Prop
 |[]=>True
 |(t,v)::r=>bS env t=v∧gH env r
theorem qL {env:List (Nat×AV)}:∀ {env':List (Nat×AV)},gH env env'→∀ t,bS env' t=.any∨bS env t=bS env' t
 |[],_,_=>.inl rfl
 | (k,v)::r,h,t=>by
   simp only [bS]
   by_cases e:k=t
   ·subst e;rw [if_pos rfl];exact .inr h.1
   ·rw [if_neg e];exact qL h.2 t
theorem lK {env:List (Nat×AV)}:∀ {a b:List (Nat×AV)},gH env a→gH env b→gH env (a++b)
 |[],_,_,h=>h
 |(_,_)::_,_,h1,h=>⟨h1.1,lK h1.2 h⟩
theorem pc {env:List (Nat×AV)}:∀ {ks:List Nat},gH env (iq env ks)
 |[]=>trivial
 |_::_=>⟨rfl,pc⟩
section
variable {P:Program} {T:TypeId→TI} {s:ASt} {Q:Exit→ASt→Prop} {c x y:Code} {np nt:Nat} {env env':List (Nat×AV)} {hp:List ABlk}
theorem aM.same (h:gH env env'):aM { np:=np,nt:=nt,env:=env,hp:=hp } { np:=np,nt:=nt,env:=env',hp:=hp }:=by
 intro E ρ a w hr
 refine ⟨ρ,hr.np,hr.nodef,hr.nt,fun t=>?_,hr.heap,hr.pre⟩
 rcases qL h t with e|e
 ·simp only [e];exact .any _
 ·simp only [←e];exact hr.env t
theorem AWP.loopK {ι:Type} (Inv:ι→Prop) (μ:ι→Nat) (st:ι→ASt) (h0:∃ i,Inv i∧aM s (st i))
  (round:∀ i,Inv i→AWP P c (st i) (fR (fun s'=>∃ j,Inv j∧μ j<μ i∧aM s' (st j)) Q)):AWP P (.loop c) s Q:=by
 refine AWP.loop (ι:={ i:ι // Inv i }) (fun i=>μ i.1) (fun i=>st i.1) ?_ fun i=>?_
 ·obtain ⟨i,h1,h2⟩:=h0
  exact ⟨⟨i,h1⟩,h2⟩
 ·refine (round i.1 i.2).mono fun e s' hq=>?_
  cases e with
  |normal=>obtain ⟨j,h1,h2,h3⟩:=hq;exact ⟨⟨j,h1⟩,h2,h3⟩
  |_=>exact hq
theorem AWP.loopS {ι:Type} (Inv:ι→Prop) (μ:ι→Nat) (ks:List Nat) (upd:ι→List (Nat×AV)) (i0:ι) (hi:Inv i0) (hu:gH env (upd i0))
  (round:∀ i,Inv i→AWP P c { np:=np,nt:=nt,env:=upd i++iq env ks,hp:=hp }
   (fR (fun s'=>∃ j,Inv j∧μ j<μ i∧aM s' { np:=np,nt:=nt,env:=upd j++iq env ks,hp:=hp }) Q)) :
  AWP P (.loop c) { np:=np,nt:=nt,env:=env,hp:=hp } Q:=
 AWP.loopK Inv μ (fun i=>{ np:=np,nt:=nt,env:=upd i++iq env ks,hp:=hp }) ⟨i0,hi,aM.same (lK hu pc)⟩ round
theorem AWP.loopB {ι:Type} (Inv:ι→Prop) (μ:ι→Nat) (ks:List Nat) (upd:ι→List (Nat×AV)) (hpf:ι→List ABlk) (i0:ι) (hi:Inv i0)
  (hu:aM { np:=np,nt:=nt,env:=env,hp:=hp } { np:=np,nt:=nt,env:=upd i0++iq env ks,hp:=hpf i0 })
  (round:∀ i,Inv i→AWP P c { np:=np,nt:=nt,env:=upd i++iq env ks,hp:=hpf i }
   (fR (fun s'=>∃ j,Inv j∧μ j<μ i∧aM s' { np:=np,nt:=nt,env:=upd j++iq env ks,hp:=hpf j }) Q)) :
  AWP P (.loop c) { np:=np,nt:=nt,env:=env,hp:=hp } Q:=
 AWP.loopK Inv μ (fun i=>{ np:=np,nt:=nt,env:=upd i++iq env ks,hp:=hpf i }) ⟨i0,hi,hu⟩ round
theorem ag.of_simp {v v':AV} {hp':List ABlk} {R:AV→List ABlk→Prop} (h:aM { np:=np,nt:=1,env:=[(0,v)],hp:=hp } { np:=np,nt:=1,env:=[(0,v')],hp:=hp' }) (h2:ag np hp' v' R):ag np hp v R:=by
 intro E ρ w u hnp hH hpre hv
 have hr:Rep E { np:=np,nt:=1,env:=[(0,v)],hp:=hp } ρ { tmps:=#[u],defers:=[] } w:=by
  refine ⟨hnp,rfl,rfl,fun t=>?_,hH,hpre⟩
  simp only [bS]
  by_cases e:0=t
  ·subst e;simpa using hv
  ·rw [if_neg e];exact .any _
 obtain ⟨ρ',hr'⟩:=h E ρ _ w hr
 have hv':=hr'.env 0
 simp only [bS,if_true] at hv'
 exact h2 E ρ' w u hr'.np hr'.heap hr'.pre (by simpa using hv')
theorem ag.same {v:AV} {R:AV→List ABlk→Prop} (h:R v hp):ag np hp v R:=fun _ ρ _ _ _ hH hpre hv=>⟨v,hp,ρ,h,hH,hpre,hv⟩
theorem ag.post {v y x:AV} (h:ag np hp v (ret y)) (hc:df y x):ag np hp v (ret x):=by
 intro E ρ w u h1 h2 h3 h4
 obtain ⟨v',hp',ρ',⟨rfl,rfl⟩,q1,q2,q3⟩:=h E ρ w u h1 h2 h3 h4
 exact ⟨x,[],ρ',⟨rfl,rfl⟩,q1,q2,pQ q3 x hc⟩
theorem Dd {T:TypeId→TI} {s:ASt} {e:Exit} {rs:List ResultVar} {x:AV} (he:e=.ret∨e=.normal) (h0:s.np=0) (h1:(aR T s rs).1)
  (h2:bE s.hp (cQ (aR T s rs).2)) (h3:bY (aY s.hp (cQ (aR T s rs).2))) (hR:df (aY s.hp (cQ (aR T s rs).2)) x):me T rs (ret x) e s:=by
 have:ag s.np s.hp (cQ (aR T s rs).2) (ret x):=by rw [h0];exact ag.post (ag.data h2 h3 ⟨rfl,rfl⟩) hR
 rcases he with rfl|rfl
 ·exact ⟨h1,this⟩
 ·exact ⟨h1,this⟩
theorem bp {T:TypeId→TI} {s:ASt} {e:Exit} {rs:List ResultVar} {R:AV→List ABlk→Prop} (he:e=.ret∨e=.normal) (h1:(aR T s rs).1) (h2:ag s.np s.hp (cQ (aR T s rs).2) R):me T rs R e s:=by
 rcases he with rfl|rfl
 ·exact ⟨h1,h2⟩
 ·exact ⟨h1,h2⟩
def cY (x:AV) (bl:List ABlk):AV→List ABlk→Prop:=fun v hp=>v=x∧hp=bl
abbrev own (sz:Nat) (rows:List (List DV)):AV→List ABlk→Prop:=cY (.osl 0 sz 0 rows.length) [.rows sz rows]
theorem ag.own_at {sz n:Nat} {rs:List (List DV)} (k:Nat) (hk:hp[k]?=some (.rows sz rs)) (hn:n=rs.length):ag 0 hp (.osl k sz 0 n) (own sz rs):=by
 subst hn
 have hlt:k<hp.length:=(List.getElem?_eq_some_iff.1 hk).1
 refine ag.of_simp (v':=.osl 0 sz 0 rs.length) (hp':=[.rows sz rs]) (aM.frame [k] rfl (fun i hi=>by simp at hi;omega) (by simp) (fun k hk=>by omega) ?_ ?_) (ag.same ⟨rfl,rfl⟩)
 ·exact ⟨⟨by simp [bS,renV,mAt],by simp [inV]⟩,trivial⟩
 ·exact ⟨.inr ⟨by simp [mAt,renB,hk],by simp [inB]⟩,trivial⟩
theorem ag.own_nil {sz:Nat}:ag 0 hp (.d (.sc (.slice none 0 0))) (own sz []):=by
 refine ag.of_simp (v':=.osl 0 sz 0 0) (hp':=[.rows sz []]) (aM.trans (aM.nilOwn 0 sz rfl) (aM.frame [hp.length] rfl (fun i hi=>by simp at hi;simp;omega) (by simp) (fun k hk=>by omega) ?_ ?_)) (ag.same ⟨rfl,rfl⟩)
 ·exact ⟨⟨by simp [bS,renV,mAt],by simp [inV]⟩,trivial⟩
 ·exact ⟨.inr ⟨by simp [mAt,renB],by simp [inB]⟩,trivial⟩
theorem kB {T:TypeId→TI} {s:ASt} {e:Exit} {rs:List ResultVar} {sz n:Nat} {rows:List (List DV)} (k:Nat) (he:e=.ret∨e=.normal) (h0:s.np=0) (h1:(aR T s rs).1)
  (hv:cQ (aR T s rs).2=.osl k sz 0 n) (hk:s.hp[k]?=some (.rows sz rows)) (hn:n=rows.length):me T rs (own sz rows) e s:=
 bp he h1 (by rw [h0,hv];exact ag.own_at k hk hn)
theorem kN {T:TypeId→TI} {s:ASt} {e:Exit} {rs:List ResultVar} {sz:Nat} (he:e=.ret∨e=.normal) (h0:s.np=0) (h1:(aR T s rs).1)
  (hv:cQ (aR T s rs).2=.d (.sc (.slice none 0 0))):me T rs (own sz []) e s:=
 bp he h1 (by rw [h0,hv];exact ag.own_nil)
end
section
variable {P:Program} {hp:List ABlk} {g:FuncId} {xs ys:List AV} {x:AV} {u0:Value}
theorem Ag {np:Nat} {K:AV→List ABlk→Prop} {t:Tok K} (c:ab P [] g ys (ret x)) (hsc:aW x=some u0) (h:fT (cI hp xs) ys∧bH hp xs∧cA (cI hp xs)) (hK:K x hp):bZ P np hp g xs K t:=
 Ao c h.1 hsc h.2.1 h.2.2 hK
theorem yn {K:AV→Prop} {t:Tok K} (c:ab P [] g ys (ret x)) (hsc:aW x=some u0) (h:fT (cI hp xs) ys∧bH hp xs∧cA (cI hp xs)) (hK:K x):lf P hp g xs K t:=
 ⟨x,.inl (nU ((c.coe h.1).mono fun v hp' h=>h.1) hsc h.2.1 h.2.2),hK⟩
theorem vB {np:Nat} {bl:List ABlk} {K:AV→List ABlk→Prop} {t:Tok K} (c:ab P [] g ys (fun v h=>v=x∧h=bl)) (h:(np=0∨cW xs=[])∧fT (cI hp xs) ys∧bH hp xs∧cA (cI hp xs))
  (hK:K (renV (br [] (killIds (cW xs) hp).length) x) (killIds (cW xs) hp++dh (br [] (killIds (cW xs) hp).length) bl)):bZ P np hp g xs K t:=
 qA c h.1 h.2.1 h.2.2.1 h.2.2.2 hK
theorem wu {np:Nat} {bl:List ABlk} {K:AV→List ABlk→Prop} {t:Tok K} (c:ab P [] g ys (fun v h=>v=x∧h=bl)) (e:xs=ys) (h:cW xs=[]∧cI hp xs=xs∧bH hp xs∧cA xs)
  (hK:K (renV (br [] hp.length) x) (hp++dh (br [] hp.length) bl)):bZ P np hp g xs K t:=by
 subst e
 refine qA c (.inr h.1) ?_ h.2.2.1 (by rw [h.2.1];exact h.2.2.2) (by rw [h.1];exact hK)
 rw [h.2.1]
 exact lq xs
end
theorem Ct (env:List (Nat×AV)):iq env []=[]:=rfl
theorem zp (env:List (Nat×AV)) (t:Nat) (r:List Nat):iq env (t::r)=(t,bS env t)::iq env r:=rfl
theorem yZ (env:List (Nat×AV)):gH env []=True:=rfl
theorem xP (env:List (Nat×AV)) (t:Nat) (v:AV) (r:List (Nat×AV)):gH env ((t,v)::r)=(bS env t=v∧gH env r):=rfl
attribute [go_sem ↓] reduceIte
attribute [go_sem] reduceCtorEq Nat.reduceAdd Nat.reduceSub Nat.reduceMul Nat.reducePow Nat.reduceDiv Nat.reduceMod Nat.reduceLT Nat.reduceLeDiff Nat.reduceEqDiff Nat.reduceBEq Int.reduceToNat Int.reduceLT Int.reduceLE Int.reduceAdd Int.reduceSub Int.reduceMul Int.reducePow Int.reduceNeg Int.reduceEq
attribute [go_sem] Int.toNat_natCast Int.cast_ofNat_Int Bool.not_eq_true' Bool.not_eq_false' ge_iff_le gt_iff_lt ne_eq not_false_eq_true not_true_eq_false Nat.one_ne_zero beq_self_eq_true Bool.bne_false Nat.zero_add
attribute [go_sem] Ct zp yZ xP
theorem aa (n:Int) (h1:-9223372036854775808≤n) (h2:n≤9223372036854775807):IntKind.i64.wrap n=n:=ve n ⟨h1,h2⟩
def inl (K:AV→List ABlk→Prop):AV→List ABlk→Prop:=K
section
variable {P:Program} {T:TypeId→TI} {np:Nat} {hp:List ABlk} {g:FuncId} {xs:List AV} {K:AV→List ABlk→Prop} {t:Tok K}
theorem bM (h:∀ K':AV→List ABlk→Prop,(∀ v hp,K v hp→K' v hp)→ab P hp g xs (inl K')):bZ P np hp g xs K t:=by
 have c:=h K fun _ _ h=>h
 refine .inl ⟨c.1,fun E ρ w us _ hH hus=>?_⟩
 let E':Ent:={ w0:=w,L0:=fun b=>eE ρ hp b,S0:=fun b=>okB E ρ hp w b,ρ0:=ρ,hS:=fun b h=>⟨h.2.1,h.2.2⟩,hL:=fun b ⟨k,_,q,_,_,hk⟩=>⟨k,q,hk⟩,hT:=hH.tabsAt,hTL:=fun p hp' hl=>hH.tabLive hp' hl }
 have hokc:∀ b,okB E ρ hp w b→okB E' ρ hp w b∧w.heap[b]?=w.heap[b]?:=fun b hb=>⟨⟨.inl hb,hb.2.1,hb.2.2⟩,rfl⟩
 have hE:RepH E' ρ hp w:=by
  refine ⟨hH.len,fun k x b q hx hk hd=>?_,hH.nil,hH.inj,Fr.refl _ _⟩
  obtain ⟨_,o,q2,q3⟩:=hH.obj k x b q hx hk hd
  exact ⟨.inl ⟨k,x,q,hx,hd,hk⟩,o,q2,q3.mono (fun _ _ h=>h) hokc⟩
 have hav:fJ ρ (okB E' ρ hp w) w xs us:=⟨hus.1,fun j x u hx hu=>(hus.2 j x u hx hu).mono (fun _ _ h=>h) hokc⟩
 refine (c.2 E' w us rfl hE hav).mono fun e w' hh=>?_
 obtain ⟨u,v,hp',ρ',h1,h2,h3,h4,h5⟩:=hh
 have hsz0:=hH.fr.size
 have hokE:∀ b,okB E' ρ' hp' w' b→okB E ρ' hp' w' b∧w'.heap[b]?=w'.heap[b]?:=by
  intro b ⟨b1,b2,b3⟩
  refine ⟨⟨?_,b2,b3⟩,rfl⟩
  rcases b1 with b1|b1
  ·exact b1.1
  ·exact .inr (Nat.le_trans hsz0 b1)
 have hcb:∀ b,eE ρ' hp' b→(eE ρ hp b∨w.heap.size≤b):=by
  intro b ⟨i,x,q,hx,hd,hi⟩
  exact (h3.obj i x b q hx hi hd).1
 have hokC:∀ b,okB E ρ hp w b→okB E ρ' hp' w' b∧w'.heap[b]?=w.heap[b]?:=by
  intro b ⟨b1,b2,b3⟩
  refine ⟨⟨b1,Nat.lt_of_lt_of_le b2 h3.fr.size,fun hl=>?_⟩,h3.fr.block b b2 b3⟩
  rcases hcb b hl with hl|hl
  ·exact b3 hl
  ·omega
 refine ⟨u,v,hp',ρ',h1,h2,⟨⟨h3.len,fun k x b q hx hk hd=>?_,h3.nil,h3.inj,?_⟩,h4,hokC⟩,h5.mono (fun _ _ h=>h) hokE⟩
 ·obtain ⟨q1,o,q2,q3⟩:=h3.obj k x b q hx hk hd
  refine ⟨?_,o,q2,q3.mono (fun _ _ h=>h) hokE⟩
  rcases q1 with ⟨k',z,q',hz,hzd,hk'⟩|q1
  ·exact (hH.obj k' z b q' hz hk' hzd).1
  ·exact .inr (Nat.le_trans hsz0 q1)
 ·refine ⟨h3.fr.os.trans hH.fr.os,h3.fr.tape.trans hH.fr.tape,h3.fr.output.trans hH.fr.output,Nat.le_trans hsz0 h3.fr.size,fun b hb hL=>?_⟩
  have:w'.heap[b]?=w.heap[b]?:=h3.fr.block b (Nat.lt_of_lt_of_le hb hsz0) (fun hl=>by
   obtain ⟨k,x,q,hx,hd,hk⟩:=hl
   rcases (hH.obj k x b q hx hk hd).1 with c1|c1
   ·exact hL c1
   ·omega)
  exact this.trans (hH.fr.block b hb hL)
theorem aend_in {s:ASt} {e:Exit} {rs:List ResultVar} {v:AV} {K0:AV→List ABlk→Prop} (hK:∀ v hp,K0 v hp→K v hp) (he:e=.ret∨e=.normal) (h1:(aR T s rs).1) (hv:cQ (aR T s rs).2=v) (h:K0 v s.hp) :
  me T rs (inl K) e s:=by
 subst hv
 have h:=hK _ _ h
 have:ag s.np s.hp (cQ (aR T s rs).2) (inl K):=ag.same h
 rcases he with rfl|rfl
 ·exact ⟨h1,this⟩
 ·exact ⟨h1,this⟩
end
section
variable {P:Program} {T:TypeId→TI} {E:Ent} {ρ:List (Option (Nat×Nat))} {w:World} {np nt:Nat} {env:List (Nat×AV)} {hp:List ABlk} {c:Code} {Q:Exit→ASt→Prop}
theorem HStep.redo (h:RepH E ρ hp w) {k b m:Nat} {x x':ABlk} (hx:hp[k]?=some x) (hd:x≠.dead) (hd':x'≠.dead) (hk:ρ[k]?=some (some (b,m))) (hb0:∀ l,x≠.bytes l)
  (hb:∀ us ty fz,w.heap[b]?=some (.cells us ty fz)→us.size=m→dy ρ (okB E ρ hp w) w us x→dy ρ (okB E ρ hp w) w us x') (hm:x.isObj=false:=by rfl) (hm':x'.isObj=false:=by rfl):HStep E ρ hp w ρ (hp.set k x') w:=by
 obtain ⟨_,us,ty,fz,q2,q3,_,q5⟩:=h.blk k x b m hx hk ⟨hd,hm⟩
 have:=HStep.set h hx hd hd' hk q2 (us':=us) rfl (fun l e=>absurd e (hb0 l)) (hb us ty fz q2 q3 q5) hm hm'
 rwa [ug w b _ q2] at this
theorem AWP.reveal (t:Nat) {k sz off n:Nat} {rs:List (List DV)} (ht:bS env t=.osl k sz off n) (hn:0<n) (hk:hp[k]?=some (.rows sz rs)) (hpos:0<sz)
  (h:∀ junk:List (List DV),(∀ r,r∈junk→r.length=sz)→off+n≤(rs++junk).length→AWP P c { np:=np,nt:=nt,env:=env,hp:=hp.set k (.full sz (rs++junk)) } Q) :
  AWP P c { np:=np,nt:=nt,env:=env,hp:=hp } Q:=by
 intro E ρ a w hr
 have hv:=hr.env t
 simp only [ht] at hv
 generalize hu:a.tmps.getD t undef=u at hv
 cases hv with
 |oslnil _ _ A _=>omega
 | osl _ _ _ _ b m cap hkk hm hnc=>
   obtain ⟨_,us,ty,fz,q2,q3,_,hone,hrl,hsz,hrr⟩:=hr.heap.blk k _ b m hk hkk (by simp)
   have hM:rs.length≤off+cap:=by
    rw [←hm] at q3
    rw [q3] at hsz
    exact Nat.le_of_mul_le_mul_right hsz hpos
   let junk:List (List DV):=(List.range (off+cap-rs.length)).map fun i=>(List.range sz).map fun j=>DV.sc (us.getD ((rs.length+i)*sz+j) undef)
   have hjl:∀ r,r∈junk→r.length=sz:=fun r hr=>by
    obtain ⟨i,_,rfl⟩:=List.mem_map.1 hr
    simp
   have hjn:junk.length=off+cap-rs.length:=by simp [junk]
   have hst:HStep E ρ hp w ρ (hp.set k (.full sz (rs++junk))) w:=by
    refine HStep.redo hr.heap hk (by simp) (by simp) hkk (by simp) fun us' ty' fz' hw' hm' _=>?_
    rw [q2] at hw'
    injection hw' with hw';injection hw' with e1 e2 e3
    subst e1
    refine ⟨hone,fun r hr=>?_,?_,fun i r hi j c u hj hu=>?_⟩
    ·rcases List.mem_append.1 hr with hr|hr
     ·exact hrl r hr
     ·exact hjl r hr
    ·rw [List.length_append,hjn,q3,←hm];congr 1;omega
    ·by_cases hil:i<rs.length
     ·rw [List.getElem?_append_left hil] at hi
      exact hrr i r hi j c u hj hu
     ·rw [List.getElem?_append_right (by omega)] at hi
      simp only [junk,List.getElem?_map] at hi
      obtain ⟨i',hi',rfl⟩:=Option.map_eq_some_iff.1 hi
      obtain ⟨hi1,hi2⟩:=List.getElem?_eq_some_iff.1 hi'
      simp only [List.getElem_range] at hi2
      subst hi2
      rw [List.getElem?_map] at hj
      obtain ⟨j',hj',rfl⟩:=Option.map_eq_some_iff.1 hj
      obtain ⟨hj1,hj2⟩:=List.getElem?_eq_some_iff.1 hj'
      simp only [List.getElem_range] at hj2
      subst hj2
      have e:rs.length+(i-rs.length)=i:=by omega
      rw [e]
      obtain ⟨hu1,hu2⟩:=Array.getElem?_eq_some_iff.1 hu
      have:us.getD (i*sz+j) undef=u:=by rw [Array.getD_eq_getD_getElem?,hu];rfl
      rw [this]
      refine .sc u (hone u ?_)
      rw [←hu2];exact Array.getElem_mem_toList hu1
   exact h junk hjl (by rw [List.length_append,hjn];omega) E ρ a w (hr.step hst)
theorem aM.nilOwnC (k j sz:Nat) {cs:List AV} (hk:hp[k]?=some (.cells cs)) (hj:cs[j]?=some (.d (.sc (.slice none 0 0)))) :
  aM { np:=np,nt:=nt,env:=env,hp:=hp } { np:=np,nt:=nt,env:=env,hp:=hp.set k (.cells (cs.set j (.osl hp.length sz 0 0)))++[.rows sz []] }:=by
 intro E ρ a w h
 have hl:=h.heap.len
 simp only at hl
 have hkl:k<hp.length:=(List.getElem?_eq_some_iff.1 hk).1
 have hst:=HStep.nilRow h.heap sz
 have hr:=h.step hst
 have hkp:∃ p,ρ[k]?=some p:=⟨ρ[k]'(by omega),List.getElem?_eq_getElem (by omega)⟩
 obtain ⟨p,hkp⟩:=hkp
 cases p with
 |none=>rcases h.heap.nil k _ hk hkp with e|⟨_,e⟩<;>cases e
 | some bm=>
   obtain ⟨b,m⟩:=bm
   have hst2:=HStep.redo (x':=.cells (cs.set j (.osl hp.length sz 0 0))) hr.heap (get_append_old hk) (by simp) (by simp) (get_append_old hkp) (by simp) fun us ty fz hw hm ⟨h1,h2,h3⟩=>⟨h1,by simp [h2],fun j' c u hc hu=>by
    rcases ak hc with ⟨e,e',_⟩|⟨_,hc⟩
    ·subst e;subst e'
     have:=h3 _ _ _ hj hu
     cases this with|d _ _ hd=>
     obtain ⟨A,rfl⟩:=gC hd
     exact .oslnil _ _ A (by rw [←hl];simp)
    ·exact h3 _ _ _ hc hu⟩
   rw [List.set_append_left _ _ hkl] at hst2
   have:=hr.step hst2
   exact ⟨_,this⟩
theorem ag.moved {k sz n:Nat} {rs:List (List DV)} {R:AV→List ABlk→Prop} (hk:hp[k]?=some (.full sz rs)) (hR:ag np (hp.set k .dead++[.rows sz (rs.take n)]) (.osl hp.length sz 0 n) R):ag np hp (.osl k sz 0 n) R:=by
 intro E ρ w u hnp hH hpre hv
 cases hv with
 |oslnil _ _ A h=>exact absurd h (hH.blks.2 k _ _ hk)
 | osl _ _ _ _ b m cap hkk hm hn=>
   have hst1:HStep E ρ hp w ρ (hp.set k (.rows sz (rs.take n))) w:=HStep.redo hH hk (by simp) (by simp) hkk (by simp) fun us ty fz hw hm' ⟨h1,h2,h3,h4⟩=>by
    refine ⟨h1,fun r hr=>h2 r (List.mem_of_mem_take hr),?_,fun i r hi j c u hj hu=>?_⟩
    ·rw [←h3];exact Nat.mul_le_mul_right _ (by simp;omega)
    ·rw [List.getElem?_take] at hi
     split at hi
     ·exact h4 i r hi j c u hj hu
     ·cases hi
   have hgk:(hp.set k (.rows sz (rs.take n)))[k]?=some (.rows sz (rs.take n)):=by
    have:=(List.getElem?_eq_some_iff.1 hk).1
    simp [this]
   have hst2:=HStep.move hst1.heap hgk (by simp) hkk
   rw [List.set_set] at hst2
   refine hR E (ρ++[some (b,m)]) w _ hnp hst2.heap (fun k p hk=>get_append_old (hpre k p hk)) ?_
   have hl:=hH.len
   exact .osl _ _ _ _ b m cap (by rw [←hl];simp) hm hn
theorem ag.framed (m:List Nat) {v v':AV} {hp':List ABlk} {R:AV→List ABlk→Prop} (hl:hp'.length=m.length) (hm:∀ i,i∈m→i<hp.length) (hinj:m.Nodup) (hpre:∀ k,k<np→m[k]?=some k)
  (he:v=renV (mAt m hp.length) v'∧inV m.length v') (hh:ky (mAt m hp.length) m.length hp 0 hp') (hR:ag np hp' v' R):ag np hp v R:=
 ag.of_simp (aM.frame m hl hm hinj hpre ⟨⟨by simpa [bS] using he.1,he.2⟩,trivial⟩ hh) hR
theorem gj {b o:Nat} {us:Array Value} {ty:TypeId} {fz:Nat×Nat} (h:w.heap[b]?=some (.cells us ty fz)):w.frozen? ⟨b,o,none⟩=decide (fz.1≤o∧o<fz.2):=by
 simp [World.frozen?,h]
theorem ext_overlaps {g : FuncId} {fn : Func} {tS tR e : TypeId} (hf : P.funcs[g]? = some fn) (hn : (fn.name == "runtime.NumGoroutine") = false) (hb : fn.body.isNone = true) (hx : Extern.findNext fn = none)
  (he:Extern.find fn=some (Extern.SlicesOverlaps.overlaps #[tS,tS] #[tR])) (hT:an P T) (ht:(T tS).kind=.slice e) (hko:(T e).kind≠.other) {k k' sz off off' n n':Nat} {x x':ABlk} {rs rs':List (List DV)}
  {f f':List (List DV)→ABlk} (hk:hp[k]?=some x) (hr:wH x sz rs f) (hk':hp[k']?=some x') (hr':wH x' sz rs' f') (hne:k≠k') (h1:0<n) (h2:0<n') (hpos:0<sz) :
  un P hp g [.osl k sz off n,.osl k' sz off' n'] (B false):=by
 intro E ρ w us hH hus
 refine ⟨.bool false,.d _ _ (.bool _),fun w' hbl=>?_⟩
 have hxd:(x≠.dead∧x.isObj=false)∧∀ l,x≠.bytes l:=by rcases hr with ⟨rfl,_⟩|⟨rfl,_⟩<;>simp
 have hxd':x'≠.dead∧x'.isObj=false:=by rcases hr' with ⟨rfl,_⟩|⟨rfl,_⟩<;>simp
 match us,hus with
 | [u, u'],hus=>
   have hu:=hus.2 0 _ u rfl rfl
   have hu':=hus.2 1 _ u' rfl rfl
   cases hu with
   |oslnil _ _ A _=>omega
   | osl _ _ _ _ b m cap hkk hm hnc=>
     cases hu' with
     |oslnil _ _ A _=>omega
     | osl _ _ _ _ b' m' cap' hkk' hm' hnc'=>
       obtain ⟨_,cs,ty,fz,q2,q3,q4,_⟩:=hH.blk k x b m hk hkk hxd.1
       obtain ⟨_,cs',ty',fz',q2',q3',q4',_⟩:=hH.blk k' x' b' m' hk' hkk' hxd'
       have hbb:b≠b':=fun e=>hne (hH.inj k k' x x' b m m' hk hk' hxd.1.1 hxd'.1 hkk (e▸hkk'))
       have e1:w'.heap[b]?=some (.cells cs ty fz):=(hbl.block b (aJ q2)).trans q2
       have e2:w'.heap[b']?=some (.cells cs' ty' fz'):=(hbl.block b' (aJ q2')).trans q2'
       have hmm:off*sz<cs.size:=by
        rw [q3,←hm]
        exact Nat.mul_lt_mul_of_pos_right (by omega) hpos
       have hmm':cs'.size≠0:=by
        rw [q3',←hm']
        exact Nat.ne_of_gt (Nat.mul_pos (by omega) hpos)
       have hpl:¬ (fz.1≤cs.size∧cs.size<fz.2):=by
        rcases q4.2 with ⟨l,hl⟩|h
        ·exact absurd hl (hxd.2 l)
        ·exact h
       rw [run_callFunc_extern hf hn hb hx he]
       have:=Lib.run_overlaps_apart (P:=P) w' tS tR e (aw hT ht) (T e).size (fun w=>aD hT hko w) ⟨b,off*sz,none⟩ ⟨b',off'*sz,none⟩ n cap n' cap' hbb ty ty' cs.size cs'.size
        (by simp [World.shape?,e1]) (by simp [World.shape?,e2]) hmm' (by rw [gj e1];simpa using q4.1 _ hmm) (by rw [gj e1];simpa using hpl)
       rw [this]
       rfl
end
theorem ab.re {P:Program} {hp:List ABlk} {g:FuncId} {xs:List AV} {x y:AV} (c:ab P hp g xs (ret x)) (e:x=y):ab P hp g xs (ret y):=e▸c
theorem AWP.quietC {P:Program} {T:TypeId→TI} {s:ASt} {Q:Exit→ASt→Prop} {id:Nat} {l:List Oper} (hm:P.follows .mixedOrders=true) (hT:an P T) (hB:(IE l.toArray&&Region.lexB .any l.toArray)=true) (h:∀ K:ASt→Prop,(∀ s',Q .normal s'→K s')→nh P T l.toArray K l s) :
  AWP P (.region id l.toArray true) s Q:=by
 rw [Bool.and_eq_true] at hB
 exact AWP.quiet hm hT hB.2 h
theorem acallH_own {P:Program} {np:Nat} {hp:List ABlk} {g:FuncId} {xs:List AV} {K:AV→List ABlk→Prop} {t:Tok K} {chp bl:List ABlk} {cargs:List AV} {x:AV} (c:ab P chp g cargs (cY x bl))
  (exs:renL (mAt (cW xs) hp.length) cargs=xs) (h:chp.length=(cW xs).length∧(cW xs).Nodup∧(∀ i,i∈cW xs→i<hp.length)∧inL (cW xs).length cargs∧ky (mAt (cW xs) hp.length) (cW xs).length hp 0 chp)
  (hK:K (renV (br (cW xs) hp.length) x) (bB (br (cW xs) hp.length) hp (cW xs) bl++dh (br (cW xs) hp.length) (bl.drop (cW xs).length))):bZ P np hp g xs K t:=by
 have:=jx (hp:=hp) (K:=K) (cW xs) c h.1 h.2.1 h.2.2.1 h.2.2.2.1 h.2.2.2.2 (fun v hp' hR=>by
  obtain ⟨rfl,rfl⟩:=hR
  exact hK)
 rw [exs] at this
 exact gV this
theorem acallHK_ext {P:Program} {np:Nat} {hp:List ABlk} {g:FuncId} {xs:List AV} {K:AV→List ABlk→Prop} {t:Tok K} {v:AV} (h:un P hp g xs v) (hK:K v hp):bZ P np hp g xs K t:=.inr ⟨v,h,hK⟩
theorem ag.done {np:Nat} {hp bl:List ABlk} {v x:AV} (h1:v=x) (h2:hp=bl):ag np hp v (cY x bl):=by subst h1;subst h2;exact ag.same ⟨rfl,rfl⟩
theorem HN (i k sz b:Nat) [Decidable (i=0)]:(if i=0 then AV.osl k sz 0 b else AV.osl k sz i (b-i))=.osl k sz i (b-i):=by
 split
 ·rename_i h;subst h;simp
 ·rfl
section
variable {P:Program} {T:TypeId→TI} {np nt:Nat} {env:List (Nat×AV)} {hp:List ABlk} {c x y:Code} {Q:Exit→ASt→Prop} {s:ASt}
theorem aM.moveOwn (t:Nat) {k sz off n:Nat} {z:ABlk} (ht:bS env t=.osl k sz off n) (hk:hp[k]?=some z) (hd:z≠.dead) :
  aM { np:=np,nt:=nt,env:=env,hp:=hp } { np:=np,nt:=nt,env:=(t,.osl hp.length sz off n)::env,hp:=hp.set k .dead++[z] }:=by
 intro E ρ a w h
 have hl:=h.heap.len
 simp only at hl
 have hkl:k<ρ.length:=by rw [hl];exact (List.getElem?_eq_some_iff.1 hk).1
 have hst:=HStep.move h.heap hk hd (List.getElem?_eq_getElem hkl)
 have hr:=h.step hst
 refine ⟨_,hr.np,hr.nodef,hr.nt,fun t'=>?_,hr.heap,hr.pre⟩
 simp only [bS]
 by_cases e:t=t'
 ·subst e
  simp only [if_true]
  have:=h.env t
  simp only [ht] at this
  generalize hu:a.tmps.getD t undef=u at this
  cases this with
  | osl _ _ _ _ b m cap hkk hm hn=>
    refine .osl _ _ _ _ b m cap ?_ hm hn
    rw [List.getElem?_eq_getElem hkl] at hkk
    rw [List.getElem?_append_right (by omega),hl,Nat.sub_self]
    simpa using hkk
  | oslnil _ _ A hkk=>
    refine .oslnil _ _ A ?_
    rw [List.getElem?_eq_getElem hkl] at hkk
    rw [List.getElem?_append_right (by omega),hl,Nat.sub_self]
    simpa using hkk
 ·simp only [e,if_false]
  exact hr.env t'
theorem AWP.meet (st:ASt) (h1:AWP P x s (fR (fun s'=>aM s' st) Q)) (h2:AWP P y st Q):AWP P x s (fR (fun s'=>AWP P y s' Q) Q):=
 h1.mono fun e s' hq=>by
  cases e with
  |normal=>exact AWP.weaken hq h2
  |_=>exact hq
theorem AWP.meetB (ks:List Nat) (upd:List (Nat×AV)) (hp':List ABlk) (h1:AWP P x { np:=np,nt:=nt,env:=env,hp:=hp } (fR (fun s'=>aM s' { np:=np,nt:=nt,env:=upd++iq env ks,hp:=hp' }) Q))
  (h2:AWP P y { np:=np,nt:=nt,env:=upd++iq env ks,hp:=hp' } Q):AWP P x { np:=np,nt:=nt,env:=env,hp:=hp } (fR (fun s'=>AWP P y s' Q) Q):=AWP.meet _ h1 h2
end
attribute [go_sem] iS.eq_def jE.eq_def iF.eq_def fH.eq_def HN Option.isSome_some Option.isSome_none rh jv jy.eq_def List.filter_cons List.filter_nil Gz.eq_def nF.eq_def pJ.eq_def srcApp.eq_def yk.eq_def lc.eq_def fO.eq_def mE.eq_def go.eq_def tj.eq_def po.eq_def jh.eq_def kw.eq_def AN.eq_def Iv.eq_def jw.eq_def
theorem hcs:(∀ (p:Prop) [Decidable p],(decide p=true)=p)∧(∀ (p:Prop) [Decidable p],(decide p=false)↔¬ p)∧(∀ a b:Bool,((a&&b)=true)=(a=true∧b=true))∧(∀ a b:Bool,((a||b)=true)=(a=true∨b=true))∧
  (∀ a b:Bool,((a||b)=false)↔(a=false∧b=false))∧(∀ a b:Bool,((a&&b)=false)↔(a=false∨b=false))∧(∀ b:Bool,((!b)=true)=(b=false))∧(∀ b:Bool,((!b)=false)=(b=true))∧((true=false)=False)∧((false=true)=False)∧
  (∀ b:Bool,(¬ b=true)=(b=false))∧(∀ b:Bool,(¬ b=false)=(b=true))∧(∀ a b:Int,¬ a<b↔b≤a)∧(∀ a b:Int,¬ a≤b↔b<a)∧(∀ a b:Nat,¬ a<b↔b≤a)∧(∀ a b:Nat,¬ a≤b↔b<a)∧
  (∀ a b:Nat,(a:Int)<(b:Int)↔a<b)∧(∀ a b:Nat,(a:Int)≤(b:Int)↔a≤b)∧(∀ a:Nat,(a:Int)=0↔a=0)∧((¬ True)=False)∧((¬ False)=True)∧((!true)=false)∧((!false)=true):=
 ⟨fun _ _=>decide_eq_true_eq,fun _ _=>decide_eq_false_iff_not,Bool.and_eq_true,Bool.or_eq_true,fun _ _=>Bool.or_eq_false_iff,fun _ _=>Bool.and_eq_false_iff,Bool.not_eq_true',Bool.not_eq_false',Bool.true_eq_false,Bool.false_eq_true,
  Bool.not_eq_true,Bool.not_eq_false,fun _ _=>Int.not_lt,fun _ _=>Int.not_le,fun _ _=>Nat.not_lt,fun _ _=>Nat.not_le,fun _ _=>Int.ofNat_lt,fun _ _=>Int.ofNat_le,fun _=>Int.natCast_eq_zero,not_true_eq_false,not_false_eq_true,Bool.not_true,Bool.not_false⟩
theorem inj:(∀ a b,(AV.d a=AV.d b)=(a=b))∧(∀ k n k' n',(DV.int k n=DV.int k' n')=(k=k'∧n=n'))∧(∀ a b,(DV.bool a=DV.bool b)=(a=b))∧(∀ a b,(DV.str a=DV.str b)=(a=b))∧(∀ k n k' n',(DV.sl k n=DV.sl k' n')=(k=k'∧n=n'))∧
  (∀ a b,(AV.tup a=AV.tup b)=(a=b))∧(∀ a b,(AV.agg a=AV.agg b)=(a=b))∧(∀ a b c d a' b' c' d',(AV.osl a b c d=AV.osl a' b' c' d')=(a=a'∧b=b'∧c=c'∧d=d'))∧(∀ a b a' b',(AV.ptr a b=AV.ptr a' b')=(a=a'∧b=b'))∧
  (∀ a b c d a' b' c' d',(AV.rp a b c d=AV.rp a' b' c' d')=(a=a'∧b=b'∧c=c'∧d=d')):=by simp
open Go
theorem acallH_at (m:List Nat) {P:Program} {np:Nat} {hp:List ABlk} {g:FuncId} {xs:List AV} {K:AV→List ABlk→Prop} {t:Tok K} {chp bl:List ABlk} {cargs:List AV} {x:AV} (c:ab P chp g cargs (cY x bl))
  (exs:renL (mAt m hp.length) cargs=xs) (h:chp.length=m.length∧m.Nodup∧(∀ i,i∈m→i<hp.length)∧inL m.length cargs∧ky (mAt m hp.length) m.length hp 0 chp)
  (hK:K (renV (br m hp.length) x) (bB (br m hp.length) hp m bl++dh (br m hp.length) (bl.drop m.length))):bZ P np hp g xs K t:=by
 have:=jx (hp:=hp) (K:=K) m c h.1 h.2.1 h.2.2.1 h.2.2.2.1 h.2.2.2.2 (fun v hp' hR=>by
  obtain ⟨rfl,rfl⟩:=hR
  exact hK)
 rw [exs] at this
 exact gV this
theorem aM.tail (k n:Nat) {np nt:Nat} {env:List (Nat×AV)} {hp:List ABlk} {sz:Nat} {rs:List (List DV)} (hk:hp[k]?=some (.rows sz rs)) :
  aM { np:=np,nt:=nt,env:=env,hp:=hp } { np:=np,nt:=nt,env:=env,hp:=hp.set k (.rows sz (rs.take n)) }:=by
 intro E ρ a w h
 have hl:=h.heap.len
 simp only at hl
 have hkl:k<hp.length:=(List.getElem?_eq_some_iff.1 hk).1
 obtain ⟨p,hkp⟩:∃ p,ρ[k]?=some p:=⟨ρ[k]'(by omega),List.getElem?_eq_getElem (by omega)⟩
 cases p with
 | none=>
   rcases h.heap.nil k _ hk hkp with e|⟨sz',e⟩
   ·cases e
   ·injection e with e1 e2
    subst e2
    have e3:hp.set k (.rows sz (List.take n []))=hp:=by
     apply List.ext_getElem?
     intro j
     rw [List.getElem?_set]
     split
     ·rename_i e;subst e;rw [hk];first|rfl|simp|(rw [if_pos hkl];simp)
     ·rfl
    rw [e3]
    exact ⟨ρ,h⟩
 | some bm=>
   obtain ⟨b,m⟩:=bm
   have hst:=HStep.redo (x':=.rows sz (rs.take n)) h.heap hk (by simp) (by simp) hkp (by simp) fun us ty fz hw hm ⟨h1,h2,h3,h4⟩=>by
    refine ⟨h1,fun r hr=>h2 r (List.mem_of_mem_take hr),Nat.le_trans (Nat.mul_le_mul_right _ (by rw [List.length_take];omega)) h3,fun i r hi j c u hj hu=>?_⟩
    rw [List.getElem?_take] at hi
    split at hi
    ·exact h4 i r hi j c u hj hu
    ·cases hi
   exact ⟨_,h.step hst⟩
theorem rG {E:Ent} {ρ:List (Option (Nat×Nat))} {hp:List ABlk} {w:World} (h:RepH E ρ hp w) (hpre:∀ (k:Nat) (p:Option (Nat×Nat)),E.ρ0[k]?=some p→ρ[k]?=some p) {k:Nat}
  (h0:∀ j,j<E.ρ0.length→j≠k∧∃ z,hp[j]?=some z∧z≠.dead):∀ (b m sz:Nat) (rs:List (List DV)),hp[k]?=some (.rows sz rs)→ρ[k]?=some (some (b,m))→okB E ρ (hp.set k .dead) w b:=by
 intro b m sz rs hx hb
 obtain ⟨q1,us,ty,fz,q2,_⟩:=h.blk k _ b m hx hb (by simp)
 have hnl:¬ eE ρ (hp.set k .dead) b:=by
  intro ⟨j,x,m',hx',hd,hj⟩
  rcases ak hx' with ⟨_,e,_⟩|⟨hne,h2⟩
  ·exact hd e
  ·exact hne (h.inj j k x _ b m' m h2 hx hd (by simp) hj hb)
 rcases q1 with q1|q1
 ·obtain ⟨k',m',hk'⟩:=E.hL b q1
  have hlt:k'<E.ρ0.length:=(List.getElem?_eq_some_iff.1 hk').1
  obtain ⟨hne,z,hz,hzd⟩:=h0 k' hlt
  exact absurd (h.inj k' k z _ b m' m hz hx hzd (by simp) (hpre _ _ hk') hb) hne
 ·exact ⟨.inr q1,aJ q2,hnl⟩
theorem aM.frz1 (t k:Nat) {np nt:Nat} {env:List (Nat×AV)} {hp:List ABlk} {sz off n:Nat} {rs:List (List DV)} (h0:∀ j,j<np→j≠k∧∃ z,hp[j]?=some z∧z≠.dead) (ht:bS env t=.osl k sz off n) (hk:hp[k]?=some (.rows sz rs)) (hn:off+n≤rs.length) :
  aM { np:=np,nt:=nt,env:=env,hp:=hp } { np:=np,nt:=nt,env:=(t,.d (.sl sz ((rs.drop off).take n)))::env,hp:=hp.set k .dead }:=by
 intro E ρ a w h
 have hst:HStep E ρ hp w ρ (hp.set k .dead) w:=HStep.kill h.heap k
 have hr:=h.step hst
 have hv:=h.env t
 simp only [ht] at hv
 have hf:bE hp (.osl k sz off n):=by rw [oL,hk];exact ⟨rfl,hn⟩
 have he:aY hp (.osl k sz off n)=.d (.sl sz ((rs.drop off).take n)):=by rw [rK,hk]
 have hnp:E.ρ0.length=np:=h.np
 have hz:=lb h.heap.blks (fun b hb=>(hst.ok b hb).1) hv (fun j hj b m sz' rs' hx hb=>by
  have hjk:j=k:=by simpa [dM] using hj
  subst hjk
  exact rG h.heap h.pre (fun i hi=>h0 i (by omega)) b m sz' rs' hx hb) hf (by rw [he];trivial)
 rw [he] at hz
 have hz:=gE (ρ':=ρ) (fun b hb=>⟨hb,rfl⟩) hz (show bY (.d (.sl sz ((rs.drop off).take n))) from trivial)
 refine ⟨ρ,hr.np,hr.nodef,hr.nt,fun t'=>?_,hr.heap,hr.pre⟩
 simp only [bS]
 by_cases e:t=t'
 ·subst e;simp only [if_true];exact hz
 ·simp only [e,if_false];exact hr.env t'
theorem aM.moveOwnC (k0 j:Nat) {np nt:Nat} {env:List (Nat×AV)} {hp:List ABlk} {cs:List AV} {k sz off n:Nat} {z:ABlk} (h0:hp[k0]?=some (.cells cs)) (hj:cs[j]?=some (.osl k sz off n)) (hk:hp[k]?=some z) (hd:z≠.dead) (hne:k≠k0) :
  aM { np:=np,nt:=nt,env:=env,hp:=hp } { np:=np,nt:=nt,env:=env,hp:=(hp.set k .dead).set k0 (.cells (cs.set j (.osl hp.length sz off n)))++[z] }:=by
 intro E ρ a w h
 have hl:=h.heap.len
 simp only at hl
 have hkl:k<hp.length:=(List.getElem?_eq_some_iff.1 hk).1
 have hkl0:k0<hp.length:=(List.getElem?_eq_some_iff.1 h0).1
 obtain ⟨p,hp'⟩:∃ p,ρ[k]?=some p:=⟨ρ[k]'(by omega),List.getElem?_eq_getElem (by omega)⟩
 obtain ⟨p0,hp0⟩:∃ p,ρ[k0]?=some p:=⟨ρ[k0]'(by omega),List.getElem?_eq_getElem (by omega)⟩
 have hst:=HStep.move h.heap hk hd hp'
 have hr:=h.step hst
 have hg0:(hp.set k .dead++[z])[k0]?=some (.cells cs):=by
  rw [List.getElem?_append_left (by simpa using hkl0),List.getElem?_set_ne hne];exact h0
 cases p0 with
 |none=>rcases h.heap.nil k0 _ h0 hp0 with e|⟨_,e⟩<;>cases e
 | some bm=>
   obtain ⟨b,m⟩:=bm
   have hst2:=HStep.redo (x':=.cells (cs.set j (.osl hp.length sz off n))) hr.heap hg0 (by simp) (by simp) (get_append_old hp0) (by simp) fun us ty fz hw hm ⟨h1,h2,h3⟩=>⟨h1,by simp [h2],fun j' c u hc hu=>by
    rcases ak hc with ⟨e,e',_⟩|⟨_,hc⟩
    ·subst e;subst e'
     have:=h3 _ _ _ hj hu
     cases this with
     | osl _ _ _ _ b m cap hkk hm hn=>
       refine .osl _ _ _ _ b m cap ?_ hm hn
       rw [get_append_old hp'] at hkk
       rw [List.getElem?_append_right (by omega),hl,Nat.sub_self]
       simpa using hkk
     | oslnil _ _ A hkk=>
       refine .oslnil _ _ A ?_
       rw [get_append_old hp'] at hkk
       rw [List.getElem?_append_right (by omega),hl,Nat.sub_self]
       simpa using hkk
    ·exact h3 _ _ _ hc hu⟩
   rw [List.set_append_left _ _ (by simpa using hkl0)] at hst2
   exact ⟨_,hr.step hst2⟩
set_option maxRecDepth 100000
theorem aM.nilOwnA (t j sz:Nat) {np nt:Nat} {env:List (Nat×AV)} {hp:List ABlk} {cs:List AV} (ht:bS env t=.agg cs) (hj:cs[j]?=some (.d (.sc (.slice none 0 0)))) :
  aM { np:=np,nt:=nt,env:=env,hp:=hp } { np:=np,nt:=nt,env:=(t,.agg (cs.set j (.osl hp.length sz 0 0)))::env,hp:=hp++[.rows sz []] }:=by
 intro E ρ a w h
 have hst:=HStep.nilRow h.heap sz
 have hr:=h.step hst
 have hl:=h.heap.len
 simp only at hl
 refine ⟨_,hr.np,hr.nodef,hr.nt,fun t'=>?_,hr.heap,hr.pre⟩
 simp only [bS]
 by_cases e:t=t'
 ·subst e
  simp only [if_true]
  have:=hr.env t
  simp only [ht] at this
  generalize a.tmps.getD t undef=u at this
  cases this with|agg _ us hlen h1 hr2=>
  refine .agg _ us (by simpa using hlen) h1 fun j' c u hc hu=>?_
  rcases ak hc with ⟨e,e',_⟩|⟨_,hc⟩
  ·subst e;subst e'
   have:=hr2 _ _ _ hj hu
   cases this with|d _ _ hd=>
   obtain ⟨A,rfl⟩:=gC hd
   exact .oslnil _ _ A (by rw [←hl];simp)
  ·exact hr2 _ _ _ hc hu
 ·simp only [e,if_false]
  exact hr.env t'
theorem xN (f:Nat→Nat):∀ (cs:List AV) (j:Nat) (x:AV),renL f (cs.set j x)=(renL f cs).set j (renV f x)
 |[],_,_=>rfl
 |y::cs,0,x=>rfl
 | y::cs,j+1,x=>by
   show renV f y::renL f (cs.set j x)=renV f y::(renL f cs).set j (renV f x)
   rw [xN f cs j x]
theorem AW (n:Nat):∀ (cs:List AV) (j:Nat) (x:AV),inL n cs→inV n x→inL n (cs.set j x)
 |[],_,_,h,_=>h
 |y::cs,0,x,h,hx=>⟨hx,h.2⟩
 |y::cs,j+1,x,h,hx=>⟨h.1,AW n cs j x h.2 hx⟩
mutual
theorem vc {m n:Nat} (hmn:m≤n):∀ (x:AV),inV m x→inV n x
 |.d _,_=>trivial
 |.agg cs,h=>n7 hmn cs h
 |.tup cs,h=>n7 hmn cs h
 |.dp _ _,_=>trivial
 |.any,_=>trivial
 |.ptr k _,h=>Nat.lt_of_lt_of_le h hmn
 |.rp k _ _ _,h=>Nat.lt_of_lt_of_le h hmn
 |.osl k _ _ _,h=>Nat.lt_of_lt_of_le h hmn
 |.mp k,h=>Nat.lt_of_lt_of_le h hmn
 |.clo _ a b,h=>⟨n7 hmn a h.1,n7 hmn b h.2⟩
 |.gd _ v,h=>vc hmn v h
theorem n7 {m n:Nat} (hmn:m≤n):∀ (l:List AV),inL m l→inL n l
 |[],_=>trivial
 |x::l,h=>⟨vc hmn x h.1,n7 hmn l h.2⟩
end
theorem o9 {E:Ent} {ρ:List (Option (Nat×Nat))} {hp:List ABlk} {w:World} (h:RepH E ρ hp w) (hpre:∀ (k:Nat) (p:Option (Nat×Nat)),E.ρ0[k]?=some p→ρ[k]?=some p) {ks:List Nat}
  (h0:∀ j,j<E.ρ0.length→j∉ks∧∃ z,hp[j]?=some z∧z≠.dead):∀ k,k∈ks→∀ (b m sz:Nat) (rs:List (List DV)),hp[k]?=some (.rows sz rs)→ρ[k]?=some (some (b,m))→okB E ρ (killIds ks hp) w b:=by
 intro k hk b m sz rs hx hb
 obtain ⟨q1,us,ty,fz,q2,_⟩:=h.blk k _ b m hx hb (by simp)
 have hnl:¬ eE ρ (killIds ks hp) b:=by
  intro ⟨j,x,m',hx',hd,hj⟩
  obtain ⟨h1,h2⟩:=kU hx' hd
  have:=h.inj j k x _ b m' m h2 hx hd (by simp) hj hb
  subst this
  exact h1 hk
 rcases q1 with q1|q1
 ·obtain ⟨k',m',hk'⟩:=E.hL b q1
  have hlt:k'<E.ρ0.length:=(List.getElem?_eq_some_iff.1 hk').1
  obtain ⟨hne,z,hz,hzd⟩:=h0 k' hlt
  have:=h.inj k' k z _ b m' m hz hx hzd (by simp) (hpre _ _ hk') hb
  subst this
  exact absurd hk hne
 ·exact ⟨.inr q1,aJ q2,hnl⟩
theorem aM.frzW (t:Nat) {np nt:Nat} {env:List (Nat×AV)} {hp:List ABlk} {v:AV} (h0:∀ j,j<np→j∉dM v∧∃ z,hp[j]?=some z∧z≠.dead) (ht:bS env t=v) (hf:bE hp v) (hn:bY (aY hp v)) :
  aM { np:=np,nt:=nt,env:=env,hp:=hp } { np:=np,nt:=nt,env:=(t,aY hp v)::env,hp:=killIds (dM v) hp }:=by
 intro E ρ a w h
 have hst:=HStep.killIds h.heap (dM v)
 have hr:=h.step hst
 have hv:=h.env t
 simp only [ht] at hv
 have hnp:E.ρ0.length=np:=h.np
 have hz:=lb h.heap.blks (fun b hb=>(hst.ok b hb).1) hv (o9 h.heap h.pre fun j hj=>h0 j (by omega)) hf hn
 have hz:=gE (ρ':=ρ) (fun b hb=>⟨hb,rfl⟩) hz hn
 refine ⟨ρ,hr.np,hr.nodef,hr.nt,fun t'=>?_,hr.heap,hr.pre⟩
 simp only [bS]
 by_cases e:t=t'
 ·subst e;simp only [if_true];exact hz
 ·simp only [e,if_false];exact hr.env t'
theorem aM.frzC (k0 j:Nat) {np nt:Nat} {env:List (Nat×AV)} {hp:List ABlk} {cs:List AV} {k sz off n:Nat} {rs:List (List DV)} (hg:hp[k0]?=some (.cells cs)) (hj:cs[j]?=some (.osl k sz off n)) (hk:hp[k]?=some (.rows sz rs)) (hn:off+n≤rs.length) (hne:k≠k0)
  (h0:∀ j,j<np→j≠k∧∃ z,hp[j]?=some z∧z≠.dead) :
  aM { np:=np,nt:=nt,env:=env,hp:=hp } { np:=np,nt:=nt,env:=env,hp:=(hp.set k .dead).set k0 (.cells (cs.set j (.d (.sl sz ((rs.drop off).take n))))) }:=by
 intro E ρ a w h
 have hl:=h.heap.len
 simp only at hl
 have hkl0:k0<hp.length:=(List.getElem?_eq_some_iff.1 hg).1
 obtain ⟨p0,hp0⟩:∃ p,ρ[k0]?=some p:=⟨ρ[k0]'(by omega),List.getElem?_eq_getElem (by omega)⟩
 have hst:HStep E ρ hp w ρ (hp.set k .dead) w:=HStep.kill h.heap k
 have hr:=h.step hst
 have hg0:(hp.set k .dead)[k0]?=some (.cells cs):=by rw [List.getElem?_set_ne hne];exact hg
 have hf:bE hp (.osl k sz off n):=by rw [oL,hk];exact ⟨rfl,hn⟩
 have he:aY hp (.osl k sz off n)=.d (.sl sz ((rs.drop off).take n)):=by rw [rK,hk]
 have hnp:E.ρ0.length=np:=h.np
 cases p0 with
 |none=>rcases h.heap.nil k0 _ hg hp0 with e|⟨_,e⟩<;>cases e
 | some bm=>
   obtain ⟨b,m⟩:=bm
   have hst2:=HStep.redo (x':=.cells (cs.set j (.d (.sl sz ((rs.drop off).take n))))) hr.heap hg0 (by simp) (by simp) hp0 (by simp) fun us ty fz hw hm ⟨h1,h2,h3⟩=>⟨h1,by simp [h2],fun j' c u hc hu=>by
    rcases ak hc with ⟨e,e',_⟩|⟨_,hc⟩
    ·subst e;subst e'
     have hx:=h3 _ _ _ hj hu
     have hv:RepV ρ (okB E ρ hp w) w (.osl k sz off n) u:=by
      cases hx with
      |osl _ _ _ _ b m cap hkk hm hn=>exact .osl _ _ _ _ b m cap hkk hm hn
      |oslnil _ _ A hkk=>exact .oslnil _ _ A hkk
     have hz:=lb h.heap.blks (fun b hb=>(hst.ok b hb).1) hv (fun j hj b m sz' rs' hx2 hb2=>by
      have hjk:j=k:=by simpa [dM] using hj
      subst hjk
      exact rG h.heap h.pre (fun i hi=>h0 i (by omega)) b m sz' rs' hx2 hb2) hf (by rw [he];trivial)
     rw [he] at hz
     exact gE (fun b hb=>⟨hb,rfl⟩) hz (show bY (.d (.sl sz ((rs.drop off).take n))) from trivial)
    ·exact h3 _ _ _ hc hu⟩
   exact ⟨_,hr.step hst2⟩
theorem aM.coeB (k0:Nat) {np nt:Nat} {env:List (Nat×AV)} {hp:List ABlk} {cs cs':List AV} (hg:hp[k0]?=some (.cells cs)) (hc:fT cs cs') :
  aM { np:=np,nt:=nt,env:=env,hp:=hp } { np:=np,nt:=nt,env:=env,hp:=hp.set k0 (.cells cs') }:=by
 intro E ρ a w h
 have hl:=h.heap.len
 simp only at hl
 have hkl0:k0<hp.length:=(List.getElem?_eq_some_iff.1 hg).1
 obtain ⟨hlen,hget⟩:=kx hc
 obtain ⟨p0,hp0⟩:∃ p,ρ[k0]?=some p:=⟨ρ[k0]'(by omega),List.getElem?_eq_getElem (by omega)⟩
 cases p0 with
 |none=>rcases h.heap.nil k0 _ hg hp0 with e|⟨_,e⟩<;>cases e
 | some bm=>
   obtain ⟨b,m⟩:=bm
   have hst:=HStep.redo (x':=.cells cs') h.heap hg (by simp) (by simp) hp0 (by simp) fun us ty fz hw hm ⟨h1,h2,h3⟩=>⟨h1,by rw [h2];exact hlen,fun j' c u hc' hu=>by
    have hjl:j'<cs.length:=by rw [hlen];exact (List.getElem?_eq_some_iff.1 hc').1
    have hx:=List.getElem?_eq_getElem hjl
    exact pQ (h3 _ _ _ hx hu) _ (hget _ _ _ hx hc')⟩
   exact ⟨_,h.step hst⟩
theorem vm {P:Program} {hp:List ABlk} {g:FuncId} {xs:List AV} {K:AV→List ABlk→Prop} {t:Tok K} (h:om P hp g xs fun v hp'=>bE hp' v∧bY (aY hp' v)∧K (aY hp' v) (killIds (dM v) hp')):bZ P 0 hp g xs K t:=by
 refine .inl ⟨h.1,fun E ρ w us h0 hH hus=>(h.2 E ρ w us hH hus).mono fun e w' ⟨u,v,hp',ρ',q1,⟨q2,q3,q4⟩,q5,q6⟩=>?_⟩
 have hst:=HStep.killIds q5.heap (dM v)
 have hz:=lb q5.heap.blks (fun b hb=>(hst.ok b hb).1) q6 (o9 q5.heap (fun k p hk=>by rw [List.length_eq_zero_iff.1 h0] at hk;cases hk) fun j hj=>by omega) q2 q3
 exact ⟨u,_,_,ρ',q1,q4,q5.trans hst,gE (ρ':=ρ') (fun b hb=>⟨hb,rfl⟩) hz q3⟩
theorem zZ (m:List Nat) {P:Program} {hp:List ABlk} {g:FuncId} {xs:List AV} {K:AV→List ABlk→Prop} {t:Tok K} {chp bl:List ABlk} {cargs:List AV} {x:AV} (c:ab P chp g cargs (cY x bl))
  (exs:renL (mAt m hp.length) cargs=xs) (h:chp.length=m.length∧m.Nodup∧(∀ i,i∈m→i<hp.length)∧inL m.length cargs∧ky (mAt m hp.length) m.length hp 0 chp)
  (hf:bE (bB (br m hp.length) hp m bl++dh (br m hp.length) (bl.drop m.length)) (renV (br m hp.length) x)∧bY (aY (bB (br m hp.length) hp m bl++dh (br m hp.length) (bl.drop m.length)) (renV (br m hp.length) x)))
  (hK:K (aY (bB (br m hp.length) hp m bl++dh (br m hp.length) (bl.drop m.length)) (renV (br m hp.length) x)) (killIds (dM (renV (br m hp.length) x)) (bB (br m hp.length) hp m bl++dh (br m hp.length) (bl.drop m.length)))):bZ P 0 hp g xs K t:=by
 have:=jx (hp:=hp) (K:=fun v hp'=>bE hp' v∧bY (aY hp' v)∧K (aY hp' v) (killIds (dM v) hp')) m c h.1 h.2.1 h.2.2.1 h.2.2.2.1 h.2.2.2.2 (fun v hp' hR=>by
  obtain ⟨rfl,rfl⟩:=hR
  exact ⟨hf.1,hf.2,hK⟩)
 rw [exs] at this
 exact vm this
attribute [go_sem] killIds
def ty1:TI:={ size:=1,bytes:=8,zero:=[.sc .nilFunc],kind:=.func }
def ty2:TI:={ size:=1,bytes:=8,zero:=[.int .i64 0],kind:=.int .i64 }
def ty3:TI:={ size:=1,bytes:=8,zero:=[.int .i64 0],kind:=.int .i64 }
def ty4:TI:={ size:=1,bytes:=1,zero:=[.bool false],kind:=.bool }
def ty5:TI:={ size:=1,bytes:=1,zero:=[.int .u8 0],kind:=.int .u8 }
def ty6:TI:={ size:=1,bytes:=1,zero:=[.int .u8 0],kind:=.int .u8 }
def ty7:TI:={ size:=4,bytes:=24,zero:=[.int .i64 0,.int .i64 0,.bool false,.int .u8 0],kind:=.struct [(0,1,2),(1,1,3),(2,1,4),(3,1,6)] }
def ty9:TI:={ size:=1,bytes:=16,zero:=[.str []],kind:=.str }
def KC:TI:={ size:=1,bytes:=4,zero:=[.int .i32 0],kind:=.int .i32 }
def Gv:TI:={ size:=1,bytes:=24,zero:=[.sc (.slice none 0 0)],kind:=.slice 30 }
def KM:TI:={ size:=1,bytes:=8,zero:=[.int .i64 0],kind:=.int .i64 }
def HW:TI:={ size:=6,bytes:=64,zero:=[.int .i64 0,.int .i64 0,.str [],.str [],.int .i64 0,.int .i64 0],kind:=.struct [(0,1,3),(1,1,3),(2,1,9),(3,1,9),(4,1,3),(5,1,3)],cmp:=[.int .i64,.int .i64,.str,.str,.int .i64,.int .i64] }
def CJ:TI:={ size:=13,bytes:=120,zero:=[.int .i64 0,.int .i64 0,.int .i64 0,.int .i64 0,.int .i64 0,.str [],.str [],.int .i64 0,.int .i64 0,.int .i64 0,.int .i64 0,.int .i64 0,.bool false],kind:=.struct [(0,1,3),(1,1,3),(2,1,3),(3,6,28),(9,1,3),(10,1,3),(11,1,3),(12,1,4)],cmp:=[.int .i64,.int .i64,.int .i64,.int .i64,.int .i64,.str,.str,.int .i64,.int .i64,.int .i64,.int .i64,.int .i64,.bool] }
def Kz:TI:={ size:=7,bytes:=56,zero:=[.int .i64 0,.int .i64 0,.int .i64 0,.int .i64 0,.int .i64 0,.int .i64 0,.int .i64 0],kind:=.struct [(0,1,3),(1,1,3),(2,1,3),(3,1,3),(4,1,3),(5,1,3),(6,1,3)],cmp:=[.int .i64,.int .i64,.int .i64,.int .i64,.int .i64,.int .i64,.int .i64] }
def Lc:TI:={ size:=1,bytes:=24,zero:=[.sc (.slice none 0 0)],kind:=.slice 100 }
def Km:TI:={ size:=12,bytes:=128,zero:=[.int .i64 0,.int .i64 0,.str [],.str [],.int .i64 0,.int .i64 0,.int .i64 0,.int .i64 0,.int .i64 0,.int .i64 0,.int .i64 0,.sc (.slice none 0 0)],kind:=.struct [(0,1,24),(1,1,3),(2,1,9),(3,1,9),(4,7,35),(11,1,36)] }
def KZ:TI:={ size:=1,bytes:=8,zero:=[.sc (.pointer none)],kind:=.pointer 116 }
def Ir:TI:={ size:=1,bytes:=24,zero:=[.sc (.slice none 0 0)],kind:=.slice 102 }
def JY:TI:={ size:=1,bytes:=24,zero:=[.sc (.slice none 0 0)],kind:=.struct [(0,1,44)] }
def Ka:TI:={ size:=1,bytes:=24,zero:=[.sc (.slice none 0 0)],kind:=.slice 80 }
def J1:TI:={ size:=4,bytes:=48,zero:=[.int .i64 0,.int .i64 0,.sc (.slice none 0 0),.int .i64 0],kind:=.struct [(0,1,3),(1,1,3),(2,1,47),(3,1,3)] }
def I0:TI:={ size:=1,bytes:=24,zero:=[.sc (.slice none 0 0)],kind:=.slice 93 }
def HI:TI:={ size:=1,bytes:=24,zero:=[.sc (.slice none 0 0)],kind:=.slice 3 }
def KS:TI:={ size:=3,bytes:=56,zero:=[.int .i64 0,.sc (.slice none 0 0),.sc (.slice none 0 0)],kind:=.struct [(0,1,3),(1,1,50),(2,1,51)] }
def KU:TI:={ size:=1,bytes:=24,zero:=[.sc (.slice none 0 0)],kind:=.slice 104 }
def K2:TI:={ size:=10,bytes:=160,zero:=[.bool false,.sc (.slice none 0 0),.int .i64 0,.int .i64 0,.sc (.slice none 0 0),.int .i64 0,.int .i64 0,.sc (.slice none 0 0),.sc (.slice none 0 0),.sc (.slice none 0 0)],kind:=.struct [(0,1,4),(1,1,46),(2,4,49),(6,3,53),(9,1,54)] }
def Ke:TI:={ size:=30,bytes:=480,zero:=[.bool false,.sc (.slice none 0 0),.int .i64 0,.int .i64 0,.sc (.slice none 0 0),.int .i64 0,.int .i64 0,.sc (.slice none 0 0),.sc (.slice none 0 0),.sc (.slice none 0 0),.bool false,.sc (.slice none 0 0),.int .i64 0,.int .i64 0,.sc (.slice none 0 0),.int .i64 0,.int .i64 0,.sc (.slice none 0 0),.sc (.slice none 0 0),.sc (.slice none 0 0),.bool false,.sc (.slice none 0 0),.int .i64 0,.int .i64 0,.sc (.slice none 0 0),.int .i64 0,.int .i64 0,.sc (.slice none 0 0),.sc (.slice none 0 0),.sc (.slice none 0 0)],kind:=.array 3 56 }
def Jc:TI:={ size:=1,bytes:=24,zero:=[.sc (.slice none 0 0)],kind:=.slice 107 }
def JW:TI:={ size:=3,bytes:=40,zero:=[.int .i64 0,.int .i64 0,.sc (.slice none 0 0)],kind:=.struct [(0,1,3),(1,1,3),(2,1,58)] }
def Kn:TI:={ size:=48,bytes:=640,zero:=[.int .i64 0,.int .i64 0,.sc (.slice none 0 0),.int .i64 0,.int .i64 0,.sc (.slice none 0 0),.int .i64 0,.int .i64 0,.sc (.slice none 0 0),.int .i64 0,.int .i64 0,.sc (.slice none 0 0),.int .i64 0,.int .i64 0,.sc (.slice none 0 0),.int .i64 0,.int .i64 0,.sc (.slice none 0 0),.int .i64 0,.int .i64 0,.sc (.slice none 0 0),.int .i64 0,.int .i64 0,.sc (.slice none 0 0),.int .i64 0,.int .i64 0,.sc (.slice none 0 0),.int .i64 0,.int .i64 0,.sc (.slice none 0 0),.int .i64 0,.int .i64 0,.sc (.slice none 0 0),.int .i64 0,.int .i64 0,.sc (.slice none 0 0),.int .i64 0,.int .i64 0,.sc (.slice none 0 0),.int .i64 0,.int .i64 0,.sc (.slice none 0 0),.int .i64 0,.int .i64 0,.sc (.slice none 0 0),.int .i64 0,.int .i64 0,.sc (.slice none 0 0)],kind:=.array 16 60 }
def Lg:TI:={ size:=3,bytes:=3,zero:=[.bool false,.bool false,.bool false],kind:=.array 3 4 }
def Le:TI:={ size:=1,bytes:=8,zero:=[.sc .nilFunc],kind:=.func }
def Kd:TI:={ size:=7,bytes:=72,zero:=[.int .i64 0,.int .i64 0,.int .i64 0,.str [],.str [],.int .i64 0,.int .i64 0],kind:=.struct [(0,1,3),(1,1,3),(2,1,3),(3,1,9),(4,1,9),(5,1,3),(6,1,3)],cmp:=[.int .i64,.int .i64,.int .i64,.str,.str,.int .i64,.int .i64] }
def Kj:TI:={ size:=1,bytes:=24,zero:=[.sc (.slice none 0 0)],kind:=.slice 98 }
def Je:TI:={ size:=9,bytes:=88,zero:=[.str [],.str [],.int .i64 0,.int .i64 0,.int .i64 0,.int .i64 0,.int .i64 0,.int .i64 0,.int .i64 0],kind:=.struct [(0,1,9),(1,1,9),(2,7,35)],cmp:=[.str,.str,.int .i64,.int .i64,.int .i64,.int .i64,.int .i64,.int .i64,.int .i64] }
def K9:TI:={ size:=2,bytes:=24,zero:=[.int .i64 0,.str []],kind:=.struct [(0,1,3),(1,1,9)],cmp:=[.int .i64,.str] }
def Fz:TI:={ size:=3,bytes:=32,zero:=[.int .i64 0,.int .i64 0,.str []],kind:=.struct [(0,1,3),(1,2,98)],cmp:=[.int .i64,.int .i64,.str] }
def AZ:TI:={ size:=3,bytes:=48,zero:=[.str [],.str [],.str []],kind:=.struct [(0,1,9),(1,1,9),(2,1,9)],cmp:=[.str,.str,.str] }
def Gs:TI:={ size:=3,bytes:=32,zero:=[.int .i64 0,.int .i64 0,.str []],kind:=.struct [(0,1,3),(1,1,3),(2,1,9)],cmp:=[.int .i64,.int .i64,.str] }
def GD:TI:={ size:=1,bytes:=24,zero:=[.sc (.slice none 0 0)],kind:=.slice 47 }
def Aw:TI:={ size:=3,bytes:=40,zero:=[.str [],.str [],.bool false],kind:=.struct [(0,1,9),(1,1,9),(2,1,4)],cmp:=[.str,.str,.bool] }
def F8:TI:={ size:=84,bytes:=1168,zero:=[.bool false,.sc (.slice none 0 0),.int .i64 0,.int .i64 0,.sc (.slice none 0 0),.int .i64 0,.int .i64 0,.sc (.slice none 0 0),.sc (.slice none 0 0),.sc (.slice none 0 0),.bool false,.sc (.slice none 0 0),.int .i64 0,.int .i64 0,.sc (.slice none 0 0),.int .i64 0,.int .i64 0,.sc (.slice none 0 0),.sc (.slice none 0 0),.sc (.slice none 0 0),.bool false,.sc (.slice none 0 0),.int .i64 0,.int .i64 0,.sc (.slice none 0 0),.int .i64 0,.int .i64 0,.sc (.slice none 0 0),.sc (.slice none 0 0),.sc (.slice none 0 0),.int .i64 0,.int .i64 0,.sc (.slice none 0 0),.int .i64 0,.int .i64 0,.sc (.slice none 0 0),.int .i64 0,.int .i64 0,.sc (.slice none 0 0),.int .i64 0,.int .i64 0,.sc (.slice none 0 0),.int .i64 0,.int .i64 0,.sc (.slice none 0 0),.int .i64 0,.int .i64 0,.sc (.slice none 0 0),.int .i64 0,.int .i64 0,.sc (.slice none 0 0),.int .i64 0,.int .i64 0,.sc (.slice none 0 0),.int .i64 0,.int .i64 0,.sc (.slice none 0 0),.int .i64 0,.int .i64 0,.sc (.slice none 0 0),.int .i64 0,.int .i64 0,.sc (.slice none 0 0),.int .i64 0,.int .i64 0,.sc (.slice none 0 0),.int .i64 0,.int .i64 0,.sc (.slice none 0 0),.int .i64 0,.int .i64 0,.sc (.slice none 0 0),.int .i64 0,.int .i64 0,.sc (.slice none 0 0),.int .i64 0,.int .i64 0,.sc (.slice none 0 0),.int .i64 0,.bool false,.bool false,.bool false,.sc (.slice none 0 0),.int .i64 0],kind:=.struct [(0,30,57),(30,48,61),(78,1,3),(79,3,62),(82,1,47),(83,1,3)] }
def Fx:TI:={ size:=1,bytes:=8,zero:=[.sc (.pointer none)],kind:=.pointer 131 }
def HH:TI:={ size:=4,bytes:=80,zero:=[.int .i64 0,.sc (.slice none 0 0),.sc (.slice none 0 0),.sc (.slice none 0 0)],kind:=.struct [(0,3,53),(3,1,81)] }
def Hk:TI:={ size:=1,bytes:=8,zero:=[.sc .nilFunc],kind:=.func }
def DE:TI:={ size:=1,bytes:=8,zero:=[.sc (.map none)],kind:=.map 9 3 }
def Fv:TI:={ size:=1,bytes:=8,zero:=[.sc .nilFunc],kind:=.func }
def Gx:TI:={ size:=1,bytes:=24,zero:=[.sc (.slice none 0 0)],kind:=.slice 49 }
def DZ:TI:={ size:=1,bytes:=8,zero:=[.int .u64 0],kind:=.int .u64 }
def FJ:TI:={ size:=1,bytes:=8,zero:=[.sc (.pointer none)],kind:=.pointer 56 }
def Eg:TI:={ size:=1,bytes:=8,zero:=[.sc .nilFunc],kind:=.func }
def E4:TI:={ size:=1,bytes:=8,zero:=[.sc .nilFunc],kind:=.func }
def FR:TI:={ size:=1,bytes:=8,zero:=[.sc (.pointer none)],kind:=.pointer 102 }
def D9:TI:={ size:=1,bytes:=8,zero:=[.sc .nilFunc],kind:=.func }
def EM:TI:={ size:=1,bytes:=8,zero:=[.sc (.pointer none)],kind:=.pointer 80 }
def DK:TI:={ size:=1,bytes:=8,zero:=[.sc (.pointer none)],kind:=.pointer 35 }
def DD:TI:={ size:=1,bytes:=8,zero:=[.sc .nilFunc],kind:=.func }
def G0:TI:={ size:=1,bytes:=8,zero:=[.sc (.pointer none)],kind:=.pointer 236 }
def Fu:TI:={ size:=2,bytes:=24,zero:=[.str [],.bool false],kind:=.struct [(0,1,9),(1,1,4)],cmp:=[.str,.bool] }
def DS:TI:={ size:=1,bytes:=24,zero:=[.sc (.slice none 0 0)],kind:=.slice 5 }
def E2:TI:={ size:=1,bytes:=8,zero:=[.sc .nilFunc],kind:=.func }
def DQ:TI:={ size:=1,bytes:=8,zero:=[.sc .nilFunc],kind:=.func }
def GU:TI:={ size:=1,bytes:=8,zero:=[.sc .nilFunc],kind:=.func }
def Gm:TI:={ size:=1,bytes:=4,zero:=[.int .u32 0],kind:=.int .u32 }
def DU:TI:={ size:=24,bytes:=24,zero:=[.int .u8 0,.int .u8 0,.int .u8 0,.int .u8 0,.int .u8 0,.int .u8 0,.int .u8 0,.int .u8 0,.int .u8 0,.int .u8 0,.int .u8 0,.int .u8 0,.int .u8 0,.int .u8 0,.int .u8 0,.int .u8 0,.int .u8 0,.int .u8 0,.int .u8 0,.int .u8 0,.int .u8 0,.int .u8 0,.int .u8 0,.int .u8 0],kind:=.array 24 5 }
def DH:TI:={ size:=1,bytes:=8,zero:=[.int .u64 0],kind:=.int .u64 }
def Hb:TI:={ size:=20,bytes:=160,zero:=[.int .u64 0,.int .u64 0,.int .u64 0,.int .u64 0,.int .u64 0,.int .u64 0,.int .u64 0,.int .u64 0,.int .u64 0,.int .u64 0,.int .u64 0,.int .u64 0,.int .u64 0,.int .u64 0,.int .u64 0,.int .u64 0,.int .u64 0,.int .u64 0,.int .u64 0,.int .u64 0],kind:=.array 20 285 }
def DR:TI:={ size:=65,bytes:=65,zero:=[.int .u8 0,.int .u8 0,.int .u8 0,.int .u8 0,.int .u8 0,.int .u8 0,.int .u8 0,.int .u8 0,.int .u8 0,.int .u8 0,.int .u8 0,.int .u8 0,.int .u8 0,.int .u8 0,.int .u8 0,.int .u8 0,.int .u8 0,.int .u8 0,.int .u8 0,.int .u8 0,.int .u8 0,.int .u8 0,.int .u8 0,.int .u8 0,.int .u8 0,.int .u8 0,.int .u8 0,.int .u8 0,.int .u8 0,.int .u8 0,.int .u8 0,.int .u8 0,.int .u8 0,.int .u8 0,.int .u8 0,.int .u8 0,.int .u8 0,.int .u8 0,.int .u8 0,.int .u8 0,.int .u8 0,.int .u8 0,.int .u8 0,.int .u8 0,.int .u8 0,.int .u8 0,.int .u8 0,.int .u8 0,.int .u8 0,.int .u8 0,.int .u8 0,.int .u8 0,.int .u8 0,.int .u8 0,.int .u8 0,.int .u8 0,.int .u8 0,.int .u8 0,.int .u8 0,.int .u8 0,.int .u8 0,.int .u8 0,.int .u8 0,.int .u8 0,.int .u8 0],kind:=.array 65 5 }
def F2:TI:={ size:=32,bytes:=32,zero:=[.int .u8 0,.int .u8 0,.int .u8 0,.int .u8 0,.int .u8 0,.int .u8 0,.int .u8 0,.int .u8 0,.int .u8 0,.int .u8 0,.int .u8 0,.int .u8 0,.int .u8 0,.int .u8 0,.int .u8 0,.int .u8 0,.int .u8 0,.int .u8 0,.int .u8 0,.int .u8 0,.int .u8 0,.int .u8 0,.int .u8 0,.int .u8 0,.int .u8 0,.int .u8 0,.int .u8 0,.int .u8 0,.int .u8 0,.int .u8 0,.int .u8 0,.int .u8 0],kind:=.array 32 5 }
def GH:TI:={ size:=64,bytes:=64,zero:=[.int .u8 0,.int .u8 0,.int .u8 0,.int .u8 0,.int .u8 0,.int .u8 0,.int .u8 0,.int .u8 0,.int .u8 0,.int .u8 0,.int .u8 0,.int .u8 0,.int .u8 0,.int .u8 0,.int .u8 0,.int .u8 0,.int .u8 0,.int .u8 0,.int .u8 0,.int .u8 0,.int .u8 0,.int .u8 0,.int .u8 0,.int .u8 0,.int .u8 0,.int .u8 0,.int .u8 0,.int .u8 0,.int .u8 0,.int .u8 0,.int .u8 0,.int .u8 0,.int .u8 0,.int .u8 0,.int .u8 0,.int .u8 0,.int .u8 0,.int .u8 0,.int .u8 0,.int .u8 0,.int .u8 0,.int .u8 0,.int .u8 0,.int .u8 0,.int .u8 0,.int .u8 0,.int .u8 0,.int .u8 0,.int .u8 0,.int .u8 0,.int .u8 0,.int .u8 0,.int .u8 0,.int .u8 0,.int .u8 0,.int .u8 0,.int .u8 0,.int .u8 0,.int .u8 0,.int .u8 0,.int .u8 0,.int .u8 0,.int .u8 0,.int .u8 0],kind:=.array 64 5 }
def tyL:List (Nat×TI):=[(1,ty1),(2,ty2),(3,ty3),(4,ty4),(5,ty5),(6,ty6),(7,ty7),(9,ty9),(21,KC),(22,Gv),(24,KM),(28,HW),(30,CJ),(35,Kz),(36,Lc),(38,Km),(41,KZ),(44,Ir),(46,JY),(47,Ka),(49,J1),(50,I0),(51,HI),(53,KS),(54,KU),(56,K2),(57,Ke),(58,Jc),(60,JW),(61,Kn),(62,Lg),(73,Le),(80,Kd),(81,Kj),(93,Je),(98,K9),(100,Fz),(102,AZ),(104,Gs),(105,GD),(107,Aw),(116,F8),(128,Fx),(131,HH),(139,Hk),(141,DE),(142,Fv),(157,Gx),(172,DZ),(174,FJ),(188,Eg),(192,E4),(198,FR),(202,D9),(220,EM),(225,DK),(230,DD),(234,G0),(236,Fu),(239,DS),(242,E2),(256,DQ),(262,GU),(267,Gm),(284,DU),(285,DH),(291,Hb),(292,DR),(295,F2),(296,GH)]
def T:TypeId→TI:=tn tyL
theorem tyOk:(tyL.all fun p=>pD Tryz.prog p.1 p.2)=true:=by kernel_rfl
theorem bQ:an Tryz.prog T:=xu fun p hp=>List.all_eq_true.1 tyOk p hp
theorem T_1:T 1=ty1:=by kernel_rfl
theorem T_2:T 2=ty2:=by kernel_rfl
theorem T_3:T 3=ty3:=by kernel_rfl
theorem T_4:T 4=ty4:=by kernel_rfl
theorem T_5:T 5=ty5:=by kernel_rfl
theorem T_6:T 6=ty6:=by kernel_rfl
theorem T_7:T 7=ty7:=by kernel_rfl
theorem T_9:T 9=ty9:=by kernel_rfl
theorem T_21:T 21=KC:=by kernel_rfl
theorem KL:T 22=Gv:=by kernel_rfl
theorem T_24:T 24=KM:=by kernel_rfl
theorem Lp:T 28=HW:=by kernel_rfl
theorem Jd:T 30=CJ:=by kernel_rfl
theorem T_35:T 35=Kz:=by kernel_rfl
theorem T_36:T 36=Lc:=by kernel_rfl
theorem T_38:T 38=Km:=by kernel_rfl
theorem T_41:T 41=KZ:=by kernel_rfl
theorem Lq:T 44=Ir:=by kernel_rfl
theorem T_46:T 46=JY:=by kernel_rfl
theorem T_47:T 47=Ka:=by kernel_rfl
theorem T_49:T 49=J1:=by kernel_rfl
theorem LL:T 50=I0:=by kernel_rfl
theorem LY:T 51=HI:=by kernel_rfl
theorem T_53:T 53=KS:=by kernel_rfl
theorem T_54:T 54=KU:=by kernel_rfl
theorem T_56:T 56=K2:=by kernel_rfl
theorem T_57:T 57=Ke:=by kernel_rfl
theorem L4:T 58=Jc:=by kernel_rfl
theorem T_60:T 60=JW:=by kernel_rfl
theorem T_61:T 61=Kn:=by kernel_rfl
theorem T_62:T 62=Lg:=by kernel_rfl
theorem T_73:T 73=Le:=by kernel_rfl
theorem T_80:T 80=Kd:=by kernel_rfl
theorem T_81:T 81=Kj:=by kernel_rfl
theorem Mz:T 93=Je:=by kernel_rfl
theorem T_98:T 98=K9:=by kernel_rfl
theorem Mg:T 100=Fz:=by kernel_rfl
theorem JT:T 102=AZ:=by kernel_rfl
theorem LA:T 104=Gs:=by kernel_rfl
theorem L1:T 105=GD:=by kernel_rfl
theorem JS:T 107=Aw:=by kernel_rfl
theorem LW:T 116=F8:=by kernel_rfl
theorem Mt:T 128=Fx:=by kernel_rfl
theorem LF:T 131=HH:=by kernel_rfl
theorem LC:T 139=Hk:=by kernel_rfl
theorem LJ:T 141=DE:=by kernel_rfl
theorem LB:T 142=Fv:=by kernel_rfl
theorem LM:T 157=Gx:=by kernel_rfl
theorem My:T 172=DZ:=by kernel_rfl
theorem Mk:T 174=FJ:=by kernel_rfl
theorem LE:T 188=Eg:=by kernel_rfl
theorem LP:T 192=E4:=by kernel_rfl
theorem Lk:T 198=FR:=by kernel_rfl
theorem Mm:T 202=D9:=by kernel_rfl
theorem LI:T 220=EM:=by kernel_rfl
theorem Mf:T 225=DK:=by kernel_rfl
theorem L6:T 230=DD:=by kernel_rfl
theorem LU:T 234=G0:=by kernel_rfl
theorem Lv:T 236=Fu:=by kernel_rfl
theorem Mx:T 239=DS:=by kernel_rfl
theorem LK:T 242=E2:=by kernel_rfl
theorem Mc:T 256=DQ:=by kernel_rfl
theorem Mb:T 262=GU:=by kernel_rfl
theorem Mp:T 267=Gm:=by kernel_rfl
theorem Mw:T 284=DU:=by kernel_rfl
theorem LD:T 285=DH:=by kernel_rfl
theorem LX:T 291=Hb:=by kernel_rfl
theorem LQ:T 292=DR:=by kernel_rfl
theorem Mr:T 295=F2:=by kernel_rfl
theorem LZ:T 296=GH:=by kernel_rfl
attribute [go_sem] T_1 ty1 T_2 ty2 T_3 ty3 T_4 ty4 T_5 ty5 T_6 ty6 T_7 ty7 T_9 ty9 T_21 KC KL Gv T_24 KM Lp HW Jd CJ T_35 Kz T_36 Lc T_38 Km T_41 KZ Lq Ir T_46 JY T_47 Ka T_49 J1 LL I0 LY HI T_53 KS T_54 KU T_56 K2 T_57 Ke L4 Jc T_60 JW T_61 Kn T_62 Lg T_73 Le T_80 Kd T_81 Kj Mz Je T_98 K9 Mg Fz JT AZ LA Gs L1 GD JS Aw LW F8 Mt Fx LF HH LC Hk LJ DE LB Fv LM Gx My DZ Mk FJ LE Eg LP E4 Lk FR Mm D9 LI EM Mf DK L6 DD LU G0 Lv Fu Mx DS LK E2 Mc DQ Mb GU Mp Gm Mw DU LD DH LX Hb LQ DR Mr F2 LZ GH
theorem mixed:Tryz.prog.follows .mixedOrders=true:=by kernel_rfl
class AR (G:Prop) (H:outParam Prop):Prop where
 f:H→G
section
variable {P:Program} {s:ASt} {Q:Exit→ASt→Prop} {x y:Code} {N:ASt→Prop} {id i:Nat}
instance:AR (AWP P (.seq x y) s Q) (AWP P x s (fR (fun s'=>AWP P y s' Q) Q)):=⟨AWP.seq⟩
instance:AR (fR N Q .normal s) (N s):=⟨ll⟩
instance:AR (fR N Q .ret s) (Q .ret s):=⟨ls⟩
instance:AR (fR N Q (.exit i) s) (Q (.exit i) s):=⟨k9⟩
instance:AR (pw id N Q .normal s) (N s):=⟨oI⟩
instance:AR (pw id N Q .ret s) (Q .ret s):=⟨oG⟩
instance:AR (pw id N Q (.exit id) s) (N s):=⟨oD⟩
instance:AR (AWP P .skip s Q) (Q .normal s):=⟨AWP.skip⟩
instance:AR (AWP P .ret s Q) (Q .ret s):=⟨AWP.ret⟩
instance:AR (AWP P (.exit i) s Q) (Q (.exit i) s):=⟨AWP.exit⟩
instance:AR (AWP P (.block id x) s Q) (AWP P x s (pw id (Q .normal) Q)):=⟨AWP.block⟩
end
class CK (G:Prop) (P:outParam Program) (hp:outParam (List ABlk)) (g:outParam FuncId) (xs:outParam (List AV)) (x:AV) (H:outParam Prop):Prop where
 sc:∀ {ys:List AV} {u0:Value},ab P [] g ys (ret x)→cI hp xs=ys→aW x=some u0→bH hp xs→cA ys→H→G
 cx:∀ {ys:List AV} {u0:Value},ab P [] g ys (ret x)→aW x=some u0→fT (cI hp xs) ys∧bH hp xs∧cA (cI hp xs)→H→G
section
variable {P:Program} {hp:List ABlk} {g:FuncId} {xs:List AV} {x:AV} {np:Nat}
instance {K:AV→List ABlk→Prop} {t:Tok K}:CK (bZ P np hp g xs K t) P hp g xs x (K x hp):=⟨fun c a b d e h=>acallH_sc c a b d e h,fun c a b h=>Ag c a b h⟩
instance {K:AV→Prop} {t:Tok K}:CK (lf P hp g xs K t) P hp g xs x (K x):=⟨fun c a b d e h=>acallQ_sc c a b d e h,fun c a b h=>yn c a b h⟩
end
section
variable {G H:Prop} {P:Program} {hp:List ABlk} {g:FuncId} {xs ys:List AV} {x:AV} {u0:Value}
theorem zA (c:ab P [] g ys (ret x)) [k:CK G P hp g xs x H] (a:cI hp xs=ys) (b:(aW x).isSome=true) (d:bH hp xs) (e:cA ys) (h:H):G:=by
 obtain ⟨u,hu⟩:=Option.isSome_iff_exists.1 b
 exact k.sc c a hu d e h
theorem zX (c:ab P [] g ys (ret x)) [k:CK G P hp g xs x H] (b:aW x=some u0) (d:fT (cI hp xs) ys∧bH hp xs∧cA (cI hp xs)) (h:H):G:=k.cx c b d h
end
section
variable {s:ASt} {Q:Exit→ASt→Prop} {id:Nat} {l:List Oper}
theorem zR (h:∀ K:ASt→Prop,(∀ s',Q .normal s'→K s')→ya Tryz.prog T l.toArray K l s):AWP Tryz.prog (.region id l.toArray false) s Q:=AWP.region bQ h
theorem zQ (hB:(IE l.toArray&&Region.lexB .any l.toArray)=true) (h:∀ K:ASt→Prop,(∀ s',Q .normal s'→K s')→nh Tryz.prog T l.toArray K l s):AWP Tryz.prog (.region id l.toArray true) s Q:=AWP.quietC mixed bQ hB h
theorem zD (hB:DJ l.toArray=true) (h:∀ K:ASt→Prop,(∀ s',Q .normal s'→K s')→gP Tryz.prog T l.toArray K l s):AWP Tryz.prog (.region id l.toArray true) s Q:=AWP.draw mixed bQ hB h
theorem zE (hB:drawE l.toArray=true) (h:∀ K:ASt→Prop,(∀ s',Q .normal s'→K s')→gP Tryz.prog T l.toArray K (rh l) s):AWP Tryz.prog (.region id l.toArray true) s Q:=AWP.drawE mixed bQ hB h
theorem zG (hB:AB T l.toArray=true) (h:∀ K:ASt→Prop,(∀ s',Q .normal s'→K s')→kp Tryz.prog T l.toArray K (jv l) s):AWP Tryz.prog (.region id l.toArray true) s Q:=AWP.drawG mixed bQ hB h
theorem zP {ops:Array Oper} (p:Plan) (hB:A1 ops p=true) (h:∀ K:ASt→Prop,(∀ s',Q .normal s'→K s')→cL Tryz.prog T ops K p s):AWP Tryz.prog (.region id ops true) s Q:=AWP.plan p mixed bQ hB h
end
theorem zN {P:Program} {g:FuncId} {xs ys:List AV} {x:AV} {hp bl:List ABlk} {np:Nat} {K:AV→List ABlk→Prop} {t:Tok K} (c:ab P [] g ys (fun v h=>v=x∧h=bl)) (e:xs=ys) (h:cW xs=[]∧cI hp xs=xs∧bH hp xs∧cA xs)
  (hK:K (renV (br [] hp.length) x) (hp++dh (br [] hp.length) bl)):bZ P np hp g xs K t:=wu c e h hK
class ER (e:Exit):Prop where
 h:e=.ret∨e=.normal
instance:ER .ret:=⟨.inl rfl⟩
instance:ER .normal:=⟨.inr rfl⟩
theorem zF {T:TypeId→TI} {s:ASt} {rs:List ResultVar} {x:AV} {e:Exit} [k:ER e] (h0:s.np=0) (h1:(aR T s rs).1)
  (h2:bE s.hp (cQ (aR T s rs).2)) (h3:bY (aY s.hp (cQ (aR T s rs).2))) (hR:df (aY s.hp (cQ (aR T s rs).2)) x):me T rs (ret x) e s:=Dd k.h h0 h1 h2 h3 hR
theorem zY {P:Program} {g:FuncId} {xs ys:List AV} {x:AV} {hp bl:List ABlk} {np:Nat} {K:AV→List ABlk→Prop} {t:Tok K} (c:ab P [] g ys (fun v h=>v=x∧h=bl)) (h:(np=0∨cW xs=[])∧fT (cI hp xs) ys∧bH hp xs∧cA (cI hp xs))
  (hK:K (renV (br [] (killIds (cW xs) hp).length) x) (killIds (cW xs) hp++dh (br [] (killIds (cW xs) hp).length) bl)):bZ P np hp g xs K t:=vB c h hK
theorem zI {g : FuncId} {fn : Func} {c : Code} (hf : Tryz.prog.funcs[g]? = some fn) (hb : fn.body = some c) (hn : (fn.name == "runtime.NumGoroutine") = false)
  {hp:List ABlk} {xs:List AV} {R:AV→List ABlk→Prop} (hx:xs.length≤fn.ntmps)
  (h:AWP Tryz.prog c { np:=hp.length,nt:=fn.ntmps,env:=fU 0 xs,hp:=hp } (me T fn.results.toList R)):ab Tryz.prog hp g xs R:=cm bQ hf hb hn hx h
theorem zV (m:List Nat) {np nt:Nat} {env env':List (Nat×AV)} {hp hp':List ABlk} (hl:Nat.beq hp'.length m.length=true) (hm:(m.all fun i=>Nat.blt i hp.length)=true) (hinj:decide m.Nodup=true) (hpre:((List.range np).all fun k=>m[k]?==some k)=true)
  (he:nx (mAt m hp.length) m.length env env') (hh:ky (mAt m hp.length) m.length hp 0 hp') :
  aM { np:=np,nt:=nt,env:=env,hp:=hp } { np:=np,nt:=nt,env:=env',hp:=hp' }:=
 aM.frame m (Nat.eq_of_beq_eq_true hl) (fun i hi=>by have:=List.all_eq_true.1 hm i hi;simpa [Nat.blt_eq] using this) (of_decide_eq_true hinj)
  (fun k hk=>by have:=List.all_eq_true.1 hpre k (List.mem_range.2 hk);simpa using this) he hh
theorem zO {T:TypeId→TI} {s:ASt} {e:Exit} {rs:List ResultVar} {R:AV→List ABlk→Prop} [k:ER e] (h1:(aR T s rs).1) (h2:ag s.np s.hp (cQ (aR T s rs).2) R):me T rs R e s:=bp k.h h1 h2
theorem zj:(∀ a b,(AV.d a=AV.d b)=(a=b))∧(∀ k n k' n',(DV.int k n=DV.int k' n')=(k=k'∧n=n'))∧(∀ a b,(DV.bool a=DV.bool b)=(a=b))∧(∀ a b,(DV.str a=DV.str b)=(a=b))∧(∀ k n k' n',(DV.sl k n=DV.sl k' n')=(k=k'∧n=n'))∧
  (∀ a b,(AV.tup a=AV.tup b)=(a=b))∧(∀ a b,(AV.agg a=AV.agg b)=(a=b))∧(∀ a b c d a' b' c' d',(AV.osl a b c d=AV.osl a' b' c' d')=(a=a'∧b=b'∧c=c'∧d=d'))∧(∀ a b a' b',(AV.ptr a b=AV.ptr a' b')=(a=a'∧b=b'))∧
  (∀ a b c d a' b' c' d',(AV.rp a b c d=AV.rp a' b' c' d')=(a=a'∧b=b'∧c=c'∧d=d'))∧(∀ (a b:AV) l m,(a::l=b::m)=(a=b∧l=m))∧(∀ (a b:DV) l m,(a::l=b::m)=(a=b∧l=m))∧(∀ (a b:List DV) l m,(a::l=b::m)=(a=b∧l=m))∧(∀ p:Prop,(p∧p)=p):=by simp
end Go.Proofs.YtjcooccnfkfjhaaGreatDoor
