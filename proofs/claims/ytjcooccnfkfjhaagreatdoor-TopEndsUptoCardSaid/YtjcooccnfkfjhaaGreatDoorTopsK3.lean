/- A part of what Tops leans on: texts of this claim, one behind the other. No condition. -/
import Derived.Laws.IdiomStrings
import Derived.Test.YtjcooccnfkfjhaaGreatDoorTopsK2
namespace Go.Proofs.YtjcooccnfkfjhaaGreatDoor
set_option linter.unusedVariables false
set_option linter.unusedSimpArgs false
open Go Go.RowKit
def cj (s:List UInt8):List (List UInt8×Int)→Option Nat
  | []=>none
  | (k,_)::r=>if s=k then some 0 else (cj s r).map (·+1)
def ka (l:List (List UInt8×Int)) (s:List UInt8):Int:=
  match cj s l with
  | some i=>(l.getD i ([],0)).2
  | none=>0
def jP (l:List (List UInt8×Int)) (s:List UInt8):Nat:=(cj s l).getD l.length
def gT (l:List (List UInt8×Int)) (s:List UInt8):List (List UInt8×Int):=if (cj s l).isSome then l else l++[(s,0)]
def kE (l:List (List UInt8×Int)) (i:Nat) (v:Int):List (List UInt8×Int):=l.modify i fun e=>(e.1,v)
def mset (l:List (List UInt8×Int)) (s:List UInt8) (v:Int):List (List UInt8×Int):=
  match cj s l with
  | some i=>kE l i v
  | none=>l++[(s,v)]
def gh (T:TypeId→TI) (t:TypeId):Prop:=
  match (T t).kind with
  | .map k e=>(T k).kind=.str∧(T e).kind=.int .i64∧(T e).zero=[.int .i64 0]
  | _=>False
def iS (hp:List ABlk):MR:=⟨True,.mp hp.length,hp++[.map []]⟩
def jX (T:TypeId→TI) (t:TypeId) (x k v:AV) (hp:List ABlk):MR:=
  match x,k,v with
  | .mp j,.d (.str s),.d (.int .i64 n)=>
    (match hp[j]? with
    | some (.map l)=>⟨gh T t,.any,hp.set j (.map (mset l s n))⟩
    | _=>⟨False,.any,hp⟩)
  | _,_,_=>⟨False,.any,hp⟩
def jh (T:TypeId→TI) (t:TypeId) (x k:AV) (hp:List ABlk):PR:=
  match x,k with
  | .mp j,.d (.str s)=>
    (match hp[j]? with
    | some (.map l)=>⟨gh T t,I (ka l s)⟩
    | _=>⟨False,.any⟩)
  | _,_=>⟨False,.any⟩
theorem eV:∀ (i:Nat) (l:List (List UInt8×Int)),(fQ i l).length=l.length
  | _,[]=>rfl
  | i,(k,v)::r=>by simp [fQ,eV (i+1) r]
theorem fV:∀ (i j:Nat) (l:List (List UInt8×Int)),(fQ i l)[j]?=(l[j]?).map fun e=>⟨aG e.1,.int .i64 e.2,i+j⟩
  | _,_,[]=>by simp [fQ]
  | i,0,(k,v)::r=>by simp [fQ]
  | i,j+1,(k,v)::r=>by
    rw [fQ,List.getElem?_cons_succ,List.getElem?_cons_succ,fV (i+1) j r]
    congr 1;funext e;congr 1;omega
theorem uH (s:List UInt8):∀ (l:List (List UInt8×Int)) (i j:Nat),Instr.findNow .string (aG s) (fQ i l) j=some ((cj s l).map fun p=>(p+j,.int .i64 (l.getD p ([],0)).2))
  | [],_,_=>rfl
  | (k,v)::r,i,j=>by
    rw [fQ,Instr.findNow]
    have:Instr.sameNow .string (aG s) (aG k)=some (decide (s=k)):=by simp only [Instr.sameNow,aG,oQ]
    rw [this]
    by_cases e:s=k
    · subst e;simp [cj]
    · rw [decide_eq_false e]
      simp only [uH s r (i+1) (j+1),cj,if_neg e,Option.map_map]
      congr 1
      cases cj s r with
      | none=>rfl
      | some p=>simp;omega
theorem kK {s:List UInt8}:∀ {l:List (List UInt8×Int)} {p:Nat},cj s l=some p→p < l.length∧(l.getD p ([],0)).1=s
  | [],p,h=>by cases h
  | (k,v)::r,p,h=>by
    unfold cj at h
    by_cases e:s=k
    · rw [if_pos e] at h;cases h;exact ⟨by simp,e.symm⟩
    · rw [if_neg e] at h
      obtain ⟨q,hq,rfl⟩:=Option.map_eq_some_iff.1 h
      have:=kK hq
      exact ⟨by simp;omega,by simpa using this.2⟩
theorem o9 {s:List UInt8} {t:List UInt8} {v:Int}:∀ {l:List (List UInt8×Int)},cj s (l++[(t,v)])=match cj s l with | some p=>some p | none=>if s=t then some l.length else none
  | []=>by simp [cj]
  | (k,u)::r=>by
    simp only [List.cons_append,cj,o9 (l:=r)]
    by_cases e:s=k
    · simp [e]
    · rw [if_neg e,if_neg e]
      cases cj s r with
      | some p=>rfl
      | none=>by_cases e2:s=t<;>simp [e2]
theorem uW {s:List UInt8}:∀ {l:List (List UInt8×Int)} {i:Nat} {v:Int},cj s (kE l i v)=cj s l
  | [],i,v=>by simp [kE,cj]
  | (k,u)::r,0,v=>by simp [kE,cj]
  | (k,u)::r,i+1,v=>by
    have:=uW (s:=s) (l:=r) (i:=i) (v:=v)
    simp only [kE] at this
    simp [kE,cj,this]
theorem De (l:List (List UInt8×Int)) (s:List UInt8):jP l s < (gT l s).length:=by
  unfold jP gT
  cases h:cj s l with
  | some p=>simpa using (kK h).1
  | none=>simp
theorem JB (l:List (List UInt8×Int)) (s:List UInt8) (v:Int):mset l s v=kE (gT l s) (jP l s) v:=by
  unfold mset gT jP
  cases h:cj s l with
  | some p=>simp
  | none=>
    simp only [Option.isSome_none,Bool.false_eq_true,if_false,Option.getD_none,kE]
    apply List.ext_getElem?
    intro j
    rw [List.getElem?_modify]
    rcases Nat.lt_trichotomy j l.length with h | h | h
    · rw [List.getElem?_append_left h,List.getElem?_append_left h];cases l[j]?<;>simp [show ¬ l.length=j from by omega]
    · subst h;simp
    · rw [List.getElem?_eq_none (by simp;omega),List.getElem?_eq_none (by simp;omega)];rfl
theorem GK (l:List (List UInt8×Int)) (s t:List UInt8) (v:Int):ka (mset l s v) t=if t=s then v else ka l t:=by
  rw [JB]
  have gp (m:List (List UInt8×Int)) (i j:Nat) (v:Int) (h:i < m.length):((kE m i v).getD j ([],0)).2=if i=j then v else (m.getD j ([],0)).2:=by
    simp only [kE,List.getD_eq_getElem?_getD,List.getElem?_modify]
    by_cases e:i=j
    · subst e;simp [List.getElem?_eq_getElem h]
    · simp only [e,if_false];cases m[j]?<;>rfl
  have hp:=De l s
  unfold ka
  rw [uW]
  by_cases e:t=s
  · subst e
    rw [if_pos rfl]
    cases h:cj t l with
    | some p=>
      have h2:cj t (gT l t)=some p:=by unfold gT;simp [h]
      have h3:jP l t=p:=by unfold jP;simp [h]
      rw [h2]
      simp only
      rw [gp _ _ _ _ hp,if_pos h3]
    | none=>
      have h2:cj t (gT l t)=some l.length:=by unfold gT;simp [h,o9]
      have h3:jP l t=l.length:=by unfold jP;simp [h]
      rw [h2]
      simp only
      rw [gp _ _ _ _ hp,if_pos h3]
  · rw [if_neg e]
    have h2:cj t (gT l s)=cj t l:=by
      unfold gT;split
      · rfl
      · rw [o9];cases cj t l<;>simp [e]
    rw [h2]
    cases h:cj t l with
    | none=>rfl
    | some p=>
      simp only
      obtain ⟨a,b⟩:=kK h
      rw [gp _ _ _ _ hp,if_neg]
      · unfold gT;split
        · rfl
        · rw [List.getD_eq_getElem?_getD,List.getElem?_append_left a,List.getD_eq_getElem?_getD]
      · intro e2
        unfold jP at e2
        cases h3:cj s l with
        | some q=>rw [h3] at e2;simp at e2;subst e2;exact e (b.symm.trans (kK h3).2)
        | none=>rw [h3] at e2;simp at e2;omega
def Ib (l:List (List UInt8×Int)) (s:List UInt8):List (List UInt8×Int):=mset l s (ka l s+1)
theorem Eb (l:List (List UInt8×Int)) (s t:List UInt8):ka (Ib l s) t=ka l t+if t=s then 1 else 0:=by
  unfold Ib
  rw [GK]
  by_cases e:t=s
  · subst e;simp
  · simp [e]
section
variable {P:Program} {E:Ent} {ρ:List (Option (Nat×Nat))} {hp:List ABlk} {w:World} {T:TypeId→TI}
theorem BH (hT:an P T) {t k e:TypeId} (hk:(T t).kind=.map k e):P.underlying t=some (.map k e):=by
  obtain ⟨d,hd,h⟩:=(aE hT (t:=t) (by rw [hk];simp)).und
  rw [hk] at h;rw [hd,h]
theorem xE {b:Nat} {es:Array MapEntry} {clk:Nat} (hb:w.heap[b]?=some (.map es clk)):(getObj b).run P w=.ok (.map es clk) w:=by simp [getObj,Sem.run,hb]
theorem wX {b:Nat} {es:Array MapEntry} {clk:Nat} (o:Obj) (hb:w.heap[b]?=some (.map es clk)):(setObj b o).run P w=.ok () (setB w b o):=by simp [setObj,Sem.run,hb,setB]
theorem ra (h:RepH E ρ hp w) (t:TypeId) :
    ∃ u w',kA E ρ hp w (.ok (.value u) w') (iS hp).v (iS hp).hp∧(Instr.makeMap t none).run P w=.ok u w':=by
  refine ⟨.map (some w.heap.size),pushB w (.map #[] 0),⟨_,_,_,.inl rfl,HStep.pushO h _ 0 (.map []) rfl,?_⟩,?_⟩
  · refine .mp _ _ 0 ?_
    rw [←h.len];simp
  · simp [Instr.makeMap,pushB]
theorem eg {k:TypeId} (hk:P.underlying k=some .string) (b:Bool) (s:List UInt8):(Instr.checkKey b 10000 k (aG s)).run P w=.ok () w:=by
  unfold Instr.checkKey
  simp [run_underlying hk,aG]
theorem kw {k:TypeId} (hk:P.underlying k=some .string) (s:List UInt8) (l:List (List UInt8×Int)) :
    (Instr.findKey k (aG s) (dY l)).run P w=.ok ((cj s l).map fun p=>(p,.int .i64 (l.getD p ([],0)).2)) w:=by
  have:=uH s l 0 0
  simp only [Nat.add_zero] at this
  simp [Instr.findKey,run_underlying hk,dY,this]
theorem K1 {j:Nat} {u:Value} (h:RepV ρ (okB E ρ hp w) w (.mp j) u):∃ b m,u=.map (some b)∧ρ[j]?=some (some (b,m)):=by
  cases h with | mp _ b m h=>exact ⟨b,m,rfl,h⟩
theorem F0 (h:RepH E ρ hp w) {j b m:Nat} {l:List (List UInt8×Int)} (hj:hp[j]?=some (.map l)) (hk:ρ[j]?=some (some (b,m))):w.heap[b]?=some (.map (dY l).toArray l.length):=by
  obtain ⟨_,o,h1,h2⟩:=h.obj j _ b m hj hk (by simp)
  rw [h1];exact congrArg some h2
theorem HT {s:List UInt8} {u:Value} (h:RepV ρ (okB E ρ hp w) w (.d (.str s)) u):u=aG s:=by
  cases h with | d _ _ h=>cases h with | str _=>rfl
theorem Li {k:IntKind} {n:Int} {u:Value} (h:RepV ρ (okB E ρ hp w) w (.d (.int k n)) u):u=.int k n:=by
  cases h with | d _ _ h=>cases h with | int _ _=>rfl
theorem yQ (l:List (List UInt8×Int)) (i:Nat) (n:Int):(dY (kE l i n)).toArray=(dY l).toArray.modify i fun e=>{ e with val:=.int .i64 n }:=by
  apply Array.ext'
  rw [Array.toList_modify]
  apply List.ext_getElem?
  intro j
  rw [List.getElem?_modify]
  simp only [dY,fV,kE,List.getElem?_modify]
  by_cases e:i=j
  · subst e;cases l[i]?<;>simp
  · cases l[j]?<;>simp [e]
theorem Av (l:List (List UInt8×Int)) (s:List UInt8) (v:Int):(dY (l++[(s,v)])).toArray=(dY l).toArray.push ⟨aG s,.int .i64 v,l.length⟩:=by
  apply Array.ext'
  rw [Array.toList_push]
  apply List.ext_getElem?
  intro j
  simp only [dY,fV]
  rcases Nat.lt_trichotomy j l.length with h | h | h
  · rw [List.getElem?_append_left h,List.getElem?_append_left (by rw [eV];exact h),fV]
  · subst h
    rw [List.getElem?_append_right (Nat.le_refl _),List.getElem?_append_right (by rw [eV];exact Nat.le_refl _),eV];simp
  · rw [List.getElem?_append_right (by omega),List.getElem?_append_right (by rw [eV];omega),eV]
    rw [List.getElem?_eq_none (by simp;omega),List.getElem?_eq_none (by simp;omega)];rfl
theorem sZ (hT:an P T) (h:RepH E ρ hp w) (t:TypeId) (x k v:AV) (ux uk uv:Value) (hx:RepV ρ (okB E ρ hp w) w x ux) (hk:RepV ρ (okB E ρ hp w) w k uk) (hv:RepV ρ (okB E ρ hp w) w v uv) (ho:(jX T t x k v hp).ok) :
    ∃ w',kA E ρ hp w (.ok .skip w') (jX T t x k v hp).v (jX T t x k v hp).hp∧(Instr.mapUpdate t ux uk uv).run P w=.ok () w':=by
  revert ho
  unfold jX
  split
  case h_2=>exact fun h=>h.elim
  rename_i j s n
  split
  case h_2=>exact fun h=>h.elim
  rename_i l hj
  intro ho
  simp only at ho ⊢
  obtain ⟨b,m,rfl,hb⟩:=K1 hx
  have:=HT hk
  subst this
  have:=Li hv
  subst this
  unfold gh at ho
  split at ho
  case h_2=>exact ho.elim
  rename_i kt et hkt
  obtain ⟨hs,hi,hz⟩:=ho
  have hm:=F0 h hj hb
  have hgo:=xE (P:=P) hm
  have hso:=fun o=>wX (P:=P) o hm
  have hu:=BH hT hkt
  have hus:=fx hT hs
  have hfk:=kw (P:=P) (w:=w) hus s l
  cases hf:cj s l with
  | none=>
    have e1:mset l s n=l++[(s,n)]:=by unfold mset;simp [hf]
    rw [e1]
    rw [hf] at hfk
    simp only [Option.map_none] at hfk
    refine ⟨setB w b (.map ((dY l).toArray.push ⟨aG s,.int .i64 n,l.length⟩) (l.length+1)),⟨_,_,_,.inr ⟨rfl,rfl⟩,HStep.setO h hj (by simp) (x':=.map (l++[(s,n)])) (by simp) hb ?_,.any _⟩,?_⟩
    · show _=Obj.map _ _
      rw [Av];simp
    · simp [Instr.mapUpdate,run_underlying hu,hgo,hso,eg hus,hfk]
  | some p=>
    have e1:mset l s n=kE l p n:=by unfold mset;simp [hf]
    rw [e1]
    obtain ⟨hp1,hp2⟩:=kK hf
    rw [hf] at hfk
    simp only [Option.map_some] at hfk
    have he:(dY l)[p]?=some ⟨aG s,.int .i64 (l.getD p ([],0)).2,p⟩:=by
      rw [dY,fV,List.getElem?_eq_getElem hp1]
      rw [List.getD_eq_getElem?_getD,List.getElem?_eq_getElem hp1] at hp2 ⊢
      simp at hp2;simp [hp2]
    have hmod:(dY l).modify p (fun e=>{ e with key:=aG s,val:=.int .i64 n })=dY (kE l p n):=by
      have:=congrArg Array.toList (yQ l p n)
      simp only [Array.toList_modify] at this
      rw [this]
      apply List.ext_getElem?
      intro j
      rw [List.getElem?_modify,List.getElem?_modify]
      by_cases e:p=j
      · subst e;rw [he];simp
      · cases (dY l)[j]?<;>simp [e]
    have hk2:Instr.keyThatStays (aG s) (aG s)=pure (aG s):=by
      unfold Instr.keyThatStays
      simp [Instr.sameBits,aG,oQ]
    refine ⟨setB w b (.map (dY (kE l p n)).toArray l.length),⟨_,_,_,.inr ⟨rfl,rfl⟩,HStep.setO h hj (by simp) (x':=.map (kE l p n)) (by simp) hb ?_,.any _⟩,?_⟩
    · show _=Obj.map _ _
      simp [kE]
    · simp [Instr.mapUpdate,run_underlying hu,hgo,hso,eg hus,hfk,he,hk2,hmod,-List.getD_eq_getElem?_getD]
theorem rN (hT:an P T) (h:RepH E ρ hp w) (t:TypeId) (x k:AV) (ux uk:Value) (hx:RepV ρ (okB E ρ hp w) w x ux) (hk:RepV ρ (okB E ρ hp w) w k uk) (ho:(jh T t x k hp).ok) :
    ∃ u,RepV ρ (okB E ρ hp w) w (jh T t x k hp).v u∧(Instr.lookup t ux uk false).run P w=.ok u w:=by
  revert ho
  unfold jh
  split
  case h_2=>exact fun h=>h.elim
  rename_i j s
  split
  case h_2=>exact fun h=>h.elim
  rename_i l hj
  intro ho
  simp only at ho ⊢
  obtain ⟨b,m,rfl,hb⟩:=K1 hx
  have:=HT hk
  subst this
  unfold gh at ho
  split at ho
  case h_2=>exact ho.elim
  rename_i kt et hkt
  obtain ⟨hs,hi,hz⟩:=ho
  have hm:=F0 h hj hb
  have hgo:=xE (P:=P) hm
  have hso:=fun o=>wX (P:=P) o hm
  have hu:=BH hT hkt
  have hus:=fx hT hs
  have hfk:=kw (P:=P) (w:=w) hus s l
  refine ⟨.int .i64 (ka l s),.d _ _ (.int _ _),?_⟩
  cases hf:cj s l with
  | none=>
    obtain ⟨z,hz1,_,hz2⟩:=dZ (P:=P) hT (t:=et) (by rw [hi];simp)
    have hz3:z=.int .i64 0:=by
      unfold TI.agg at hz2
      rw [hi,hz] at hz2
      simpa [DV.val] using hz2
    subst hz3
    have e3:ka l s=0:=by unfold ka;simp [hf]
    rw [hf] at hfk
    simp only [Option.map_none] at hfk
    rw [e3]
    simp [Instr.lookup,run_underlying hu,hgo,hso,eg hus,hfk,hz1]
  | some p=>
    have e3:ka l s=(l.getD p ([],0)).2:=by unfold ka;simp [hf]
    rw [hf] at hfk
    simp only [Option.map_some] at hfk
    rw [e3]
    simp [Instr.lookup,run_underlying hu,hgo,hso,eg hus,hfk]
end
end Go.Proofs.YtjcooccnfkfjhaaGreatDoor
namespace Go.Proofs.YtjcooccnfkfjhaaGreatDoor
set_option linter.unusedVariables false
set_option linter.unusedSimpArgs false
open Go Go.RowKit
/-! ### A row of the call's own, looked at as data -/
mutual
def aZ (hp:List ABlk):AV→AV
  | .osl k sz off n=>
    match hp[k]? with
    | some (.rows _ rs)=>.d (.sl sz ((rs.drop off).take n))
    | _=>.any
  | .agg cs=>.agg (cJ hp cs)
  | .tup cs=>.tup (cJ hp cs)
  | v=>v
def cJ (hp:List ABlk):List AV→List AV
  | []=>[]
  | x::r=>aZ hp x::cJ hp r
end
mutual
def bJ (hp:List ABlk):AV→Prop
  | .osl k sz off n=>
    match hp[k]? with
    | some (.rows sz' rs)=>sz=sz'∧off+n≤rs.length
    | _=>False
  | .agg cs=>bN hp cs
  | .tup cs=>bN hp cs
  | _=>True
def bN (hp:List ABlk):List AV→Prop
  | []=>True
  | x::r=>bJ hp x∧bN hp r
end
mutual
def bV:AV→Prop
  | .d _=>True
  | .dp _ _=>True
  | .any=>True
  | .agg cs=>cf cs
  | .tup cs=>cf cs
  | _=>False
def cf:List AV→Prop
  | []=>True
  | x::r=>bV x∧cf r
end
section
variable {P:Program} {T:TypeId→TI} {E:Ent} {s:ASt} {ρ ρ':List (Option (Nat×Nat))} {a:Act} {w w':World} {hp:List ABlk}
theorem dF {hp:List ABlk}:∀ {cs:List AV} {j:Nat},(cJ hp cs)[j]?=(cs[j]?).map (aZ hp)
  | [],j=>by simp [cJ]
  | x::r,0=>by simp [cJ]
  | x::r,j+1=>by simp only [cJ,List.getElem?_cons_succ];exact dF
theorem d8 {hp:List ABlk}:∀ {cs:List AV},(cJ hp cs).length=cs.length
  | []=>rfl
  | x::r=>by simp [cJ,d8 (cs:=r)]
theorem dy {hp:List ABlk}:∀ {cs:List AV} {j:Nat} {x:AV},bN hp cs→cs[j]?=some x→bJ hp x
  | y::r,0,x,h,hx=>by simp at hx;subst hx;exact h.1
  | y::r,j+1,x,h,hx=>dy h.2 (by simpa using hx)
theorem cF:∀ {cs:List AV} {j:Nat} {x:AV},cf cs→cs[j]?=some x→bV x
  | y::r,0,x,h,hx=>by simp at hx;subst hx;exact h.1
  | y::r,j+1,x,h,hx=>cF h.2 (by simpa using hx)
theorem lw {ok ok':Nat→Prop} {k:Nat} (hB:nI ρ ok w hp) (hok:∀ b,ok b→ok' b) (hrow:∀ (b m sz:Nat) (rs:List (List DV)),hp[k]?=some (.rows sz rs)→ρ[k]?=some (some (b,m))→ok' b)
    {sz off n:Nat} {u:Value} (h:RepV ρ ok w (.osl k sz off n) u) (hf:bJ hp (.osl k sz off n)):RepV [] ok' w (aZ hp (.osl k sz off n)) u:=by
  simp only [bJ] at hf
  simp only [aZ]
  split at hf
  · rename_i sz' rs hcs
    obtain ⟨h1,h2⟩:=hf
    subst h1
    try simp only [hcs]
    have hlen:((rs.drop off).take n).length=n:=aA _ _ _ h2
    cases h with
    | oslnil _ _ A hk=>
      have:(rs.drop 0).take 0=[]:=by simp
      rw [this]
      exact .d _ _ (.sl sz [] A 0 (fun _ _=>undef) (by simp) (by simp) (by simp) (by simp))
    | osl _ _ _ _ b m cap hk hm hn=>
      obtain ⟨us,ty,fz,hw,hum,hone,hrl,hsz,hr⟩:=hB.1 k _ b m hcs hk (by simp)
      rw [show Value.slice (some ⟨b,off*sz,none⟩) n cap=Value.slice (some ⟨b,off*sz,none⟩) ((rs.drop off).take n).length cap from by rw [hlen]]
      have cellOf:∀ (i:Nat) (r:List DV),((rs.drop off).take n)[i]?=some r→∀ (j:Nat) (c:DV),r[j]?=some c→∃ v,us[(off+i)*sz+j]?=some v:=by
        intro i r hi j c hj
        have a1:=(aj _ _ _ _ _ hi).1
        have hil:off+i < rs.length:=(List.getElem?_eq_some_iff.1 a1).1
        have hjl:j < sz:=by rw [←hrl r (List.mem_of_getElem? a1)];exact (List.getElem?_eq_some_iff.1 hj).1
        have:(off+i+1)*sz≤rs.length*sz:=Nat.mul_le_mul_right _ hil
        rw [Nat.add_mul] at this
        have hlt:(off+i)*sz+j < us.size:=by omega
        exact ⟨_,Array.getElem?_eq_getElem hlt⟩
      refine .d _ _ (.sl sz _ _ _ (fun i j=>us.getD ((off+i)*sz+j) undef) (by rw [hlen];exact hn) (fun r hr'=>hrl r (d9 hr')) (fun _=>⟨b,off*sz,rfl,hrow b m sz rs hcs hk,fun i r hi j c hj=>?_⟩) fun i r hi j c hj=>?_)
      · obtain ⟨v,hv⟩:=cellOf i r hi j c hj
        rw [aM hw,show off*sz+(i*sz+j)=(off+i)*sz+j from by rw [Nat.add_mul];omega,hv]
        simp [Array.getD_eq_getD_getElem?,hv]
      · obtain ⟨v,hv⟩:=cellOf i r hi j c hj
        have a1:=(aj _ _ _ _ _ hi).1
        have:=hr (off+i) r a1 j c v hj hv
        have e:us.getD ((off+i)*sz+j) undef=v:=by simp [Array.getD_eq_getD_getElem?,hv]
        rw [e]
        exact this.mono fun b hb=>⟨hok b hb,rfl⟩
  · exact hf.elim
theorem Gx {ok ok':Nat→Prop} (hB:nI ρ ok w hp) (hok:∀ b,ok b→ok' b) (hrow:∀ (k b m sz:Nat) (rs:List (List DV)),hp[k]?=some (.rows sz rs)→ρ[k]?=some (some (b,m))→ok' b)
    {v:AV} {u:Value} (h:RepV ρ ok w v u):bJ hp v→bV (aZ hp v)→RepV [] ok' w (aZ hp v) u:=by
  induction h with
  | d x v h=>intro _ _;simp only [aZ];exact .d _ _ (h.mono fun b hb=>⟨hok b hb,rfl⟩)
  | agg cs us hl h1 hr ih=>
    intro hf hn
    simp only [aZ,bJ,bV] at hf hn ⊢
    refine .agg _ _ (by rw [d8];exact hl) h1 fun j c u hc hu=>?_
    rw [dF] at hc
    obtain ⟨x,hx,rfl⟩:=Option.map_eq_some_iff.1 hc
    exact ih j x u hx hu (dy hf hx) (cF (j:=j) hn (by rw [dF,hx];rfl))
  | tup cs us hl hr ih=>
    intro hf hn
    simp only [aZ,bJ,bV] at hf hn ⊢
    refine .tup _ _ (by rw [d8];exact hl) fun j c u hc hu=>?_
    rw [dF] at hc
    obtain ⟨x,hx,rfl⟩:=Option.map_eq_some_iff.1 hc
    exact ih j x u hx hu (dy hf hx) (cF (j:=j) hn (by rw [dF,hx];rfl))
  | ptr k off b m h=>intro _ hn;simp [aZ,bV] at hn
  | rp k sz i off b m h=>intro _ hn;simp [aZ,bV] at hn
  | osl k sz off n b m cap h hm hn'=>intro hf _;exact lw hB hok (hrow k) (.osl k sz off n b m cap h hm hn') hf
  | oslnil k sz A h=>intro hf _;exact lw hB hok (hrow k) (.oslnil k sz A h) hf
  | dp row off b o u hb hc hr=>
    intro _ _
    simp only [aZ]
    exact .dp row off b o u (hok b hb) hc fun j c hj=>(hr j c hj).mono fun b hb=>⟨hok b hb,rfl⟩
  | clo f first caps us vs hl hl' hr hr' ih ih'=>intro _ hn;simp [aZ,bV] at hn
  | mp k b m h=>intro _ hn;simp [aZ,bV] at hn
  | gd g v u ht hf ih=>intro _ hn;simp [aZ,bV] at hn
  | any u=>intro _ _;simp only [aZ];exact .any u
theorem ia {ok ok':Nat→Prop} (hok:∀ b,ok b→ok' b∧w'.heap[b]?=w.heap[b]?) {v:AV} {u:Value} (h:RepV ρ ok w v u):bV v→RepV ρ' ok' w' v u:=by
  induction h with
  | d x v h=>intro _;exact .d _ _ (h.mono hok)
  | agg cs us hl h1 hr ih=>intro hn;exact .agg _ _ hl h1 fun j c u hc hu=>ih j c u hc hu (cF hn hc)
  | tup cs us hl hr ih=>intro hn;exact .tup _ _ hl fun j c u hc hu=>ih j c u hc hu (cF hn hc)
  | dp row off b o u hb hc hr=>
    intro _
    exact .dp row off b o u (hok b hb).1 (fun j c hj=>(bt (hok b hb).2).trans (hc j c hj)) fun j c hj=>(hr j c hj).mono hok
  | any u=>intro _;exact .any u
  | _=>intro hn;simp [bV] at hn
/-! ### Rows that are given up -/
mutual
def dO:AV→List Nat
  | .osl k _ _ _=>[k]
  | .agg cs=>cU cs
  | .tup cs=>cU cs
  | _=>[]
def cU:List AV→List Nat
  | []=>[]
  | x::r=>dO x++cU r
end
def killIds:List Nat→List ABlk→List ABlk
  | [],hp=>hp
  | k::r,hp=>killIds r (hp.set k .dead)
theorem HStep.killIds (h:RepH E ρ hp w):∀ (ks:List Nat) ,HStep E ρ hp w ρ (killIds ks hp) w:=by
  intro ks
  induction ks generalizing hp with
  | nil=>exact HStep.below h ⟨rfl,rfl,rfl,Nat.le_refl _,fun _ _=>rfl⟩
  | cons k r ih=>exact (HStep.kill h k).trans (ih (HStep.kill h k).heap)
theorem kG:∀ {ks:List Nat} {hp:List ABlk} {j:Nat} {x:ABlk},(_root_.Go.Proofs.YtjcooccnfkfjhaaGreatDoor.killIds ks hp)[j]?=some x→x≠.dead→j∉ks∧hp[j]?=some x
  | [],hp,j,x,h,_=>⟨by simp,h⟩
  | k::r,hp,j,x,h,hd=>by
    obtain ⟨h1,h2⟩:=kG (ks:=r) h hd
    rcases ak h2 with ⟨_,e,_⟩ | ⟨hne,h3⟩
    · exact absurd e hd
    · exact ⟨by simp [h1,hne],h3⟩
theorem jd:∀ {cs:List AV} {j:Nat} {x:AV} {k:Nat},cs[j]?=some x→k∈dO x→k∈cU cs
  | y::r,0,x,k,h,hk=>by simp at h;subst h;simp [cU,hk]
  | y::r,j+1,x,k,h,hk=>by simp only [cU,List.mem_append];exact .inr (jd (by simpa using h) hk)
theorem lF {ok ok':Nat→Prop} (hB:nI ρ ok w hp) (hok:∀ b,ok b→ok' b) {v:AV} {u:Value} (h:RepV ρ ok w v u) :
    (∀ k,k∈dO v→∀ (b m sz:Nat) (rs:List (List DV)),hp[k]?=some (.rows sz rs)→ρ[k]?=some (some (b,m))→ok' b)→bJ hp v→bV (aZ hp v)→RepV [] ok' w (aZ hp v) u:=by
  induction h with
  | d x v h=>intro _ _ _;simp only [aZ];exact .d _ _ (h.mono fun b hb=>⟨hok b hb,rfl⟩)
  | agg cs us hl h1 hr ih=>
    intro hi hf hn
    simp only [aZ,bJ,bV] at hf hn ⊢
    refine .agg _ _ (by rw [d8];exact hl) h1 fun j c u hc hu=>?_
    rw [dF] at hc
    obtain ⟨x,hx,rfl⟩:=Option.map_eq_some_iff.1 hc
    exact ih j x u hx hu (fun k hk=>hi k (jd hx hk)) (dy hf hx) (cF (j:=j) hn (by rw [dF,hx];rfl))
  | tup cs us hl hr ih=>
    intro hi hf hn
    simp only [aZ,bJ,bV] at hf hn ⊢
    refine .tup _ _ (by rw [d8];exact hl) fun j c u hc hu=>?_
    rw [dF] at hc
    obtain ⟨x,hx,rfl⟩:=Option.map_eq_some_iff.1 hc
    exact ih j x u hx hu (fun k hk=>hi k (jd hx hk)) (dy hf hx) (cF (j:=j) hn (by rw [dF,hx];rfl))
  | ptr k off b m h=>intro _ _ hn;simp [aZ,bV] at hn
  | rp k sz i off b m h=>intro _ _ hn;simp [aZ,bV] at hn
  | osl k sz off n b m cap h hm hn'=>
    intro hi hf hn
    refine lw hB hok (hi k (by simp [dO])) (.osl k sz off n b m cap h hm hn') hf
  | oslnil k sz A h=>intro hi hf _;exact lw hB hok (hi k (by simp [dO])) (.oslnil k sz A h) hf
  | dp row off b o u hb hc hr=>
    intro _ _ _
    simp only [aZ]
    exact .dp row off b o u (hok b hb) hc fun j c hj=>(hr j c hj).mono fun b hb=>⟨hok b hb,rfl⟩
  | clo f first caps us vs hl hl' hr hr' ih ih'=>intro _ _ hn;simp [aZ,bV] at hn
  | mp k b m h=>intro _ _ hn;simp [aZ,bV] at hn
  | gd g v u ht hf ih=>intro _ _ hn;simp [aZ,bV] at hn
  | any u=>intro _ _ _;simp only [aZ];exact .any u
theorem y6 (h:RepH E ρ hp w) (h0:E.ρ0=[]) (ks:List Nat):∀ k,k∈ks→∀ (b m sz:Nat) (rs:List (List DV)),hp[k]?=some (.rows sz rs)→ρ[k]?=some (some (b,m))→okB E ρ (killIds ks hp) w b:=by
  intro k hk b m sz rs hx hb
  obtain ⟨q1,us,ty,fz,q2,_⟩:=h.blk k _ b m hx hb (by simp)
  have hnl:¬ eI ρ (killIds ks hp) b:=by
    intro ⟨j,x,m',hx',hd,hj⟩
    obtain ⟨h1,h2⟩:=kG hx' hd
    have:=h.inj j k x _ b m' m h2 hx hd (by simp) hj hb
    subst this
    exact h1 hk
  rcases q1 with q1 | q1
  · obtain ⟨k',m',hk'⟩:=E.hL b q1
    rw [h0] at hk';simp at hk'
  · exact ⟨.inr q1,aJ q2,hnl⟩
theorem yw (h:RepH E ρ hp w) (h0:E.ρ0=[]) {ks:List Nat} {v:AV} {u:Value} (hv:RepV ρ (okB E ρ hp w) w v u) (hks:∀ k,k∈dO v→k∈ks) (hf:bJ hp v) (hn:bV (aZ hp v)) :
    RepV ρ (okB E ρ (killIds ks hp) w) w (aZ hp v) u:=by
  have:=lF h.blks (fun b hb=>((HStep.killIds h ks).ok b hb).1) hv (fun k hk=>y6 h h0 ks k (hks k hk)) hf hn
  exact ia (fun b hb=>⟨hb,rfl⟩) this hn
def dR (np:Nat) (hp:List ABlk) (ps:List (Nat×AV)):Prop×List (Nat×AV)×List ABlk:=
  match cU (ps.map fun p=>p.2) with
  | []=>(True,ps,hp)
  | k::r=>if np=0 then (bN hp (ps.map fun p=>p.2)∧cf (cJ hp (ps.map fun p=>p.2)),ps.map (fun p=>(p.1,aZ hp p.2)),killIds (k::r) hp) else (True,ps,hp)
theorem tp (h:RepH E ρ hp w) {np:Nat} (hnp:E.ρ0.length=np) {ps:List (Nat×AV)} {vs:List (Nat×Value)} (hl:vs.length=ps.length)
    (hr:∀ (j:Nat) (x:Nat×AV) (y:Nat×Value),ps[j]?=some x→vs[j]?=some y→y.1=x.1∧RepV ρ (okB E ρ hp w) w x.2 y.2) (hk:(dR np hp ps).1) :
    HStep E ρ hp w ρ (dR np hp ps).2.2 w∧vs.length=(dR np hp ps).2.1.length∧
    ∀ (j:Nat) (x:Nat×AV) (y:Nat×Value),(dR np hp ps).2.1[j]?=some x→vs[j]?=some y→y.1=x.1∧RepV ρ (okB E ρ (dR np hp ps).2.2 w) w x.2 y.2:=by
  revert hk
  unfold dR
  split
  · intro _;exact ⟨HStep.below h ⟨rfl,rfl,rfl,Nat.le_refl _,fun _ _=>rfl⟩,hl,hr⟩
  rename_i k r hids
  split
  · rename_i h0
    intro ⟨hf,hn⟩
    have hE:E.ρ0=[]:=List.eq_nil_of_length_eq_zero (by rw [hnp];exact h0)
    refine ⟨HStep.killIds h _,by simpa using hl,fun j x y hx hy=>?_⟩
    simp only [List.getElem?_map] at hx
    obtain ⟨p,hp',rfl⟩:=Option.map_eq_some_iff.1 hx
    obtain ⟨q1,q2⟩:=hr j p y hp' hy
    have hm:(ps.map fun p=>p.2)[j]?=some p.2:=by rw [List.getElem?_map,hp'];rfl
    refine ⟨q1,yw h hE q2 (fun i hi=>by rw [←hids];exact jd hm hi) (dy hf hm) (cF (j:=j) hn (by rw [dF,hm];rfl))⟩
  · intro _;exact ⟨HStep.below h ⟨rfl,rfl,rfl,Nat.le_refl _,fun _ _=>rfl⟩,hl,hr⟩
end
end Go.Proofs.YtjcooccnfkfjhaaGreatDoor
namespace Go.Proofs.YtjcooccnfkfjhaaGreatDoor
set_option linter.unusedVariables false
set_option linter.unusedSimpArgs false
open Go Go.RowKit
def CZ:List DV→Prop
  | [.int .u8 n]=>0≤n∧n < 256
  | _=>False
def ub:List DV→UInt8
  | [.int .u8 n]=>UInt8.ofNat n.toNat
  | _=>0
def Bq (rows:List (List DV)):Prop:=∀ r,r∈rows→CZ r
theorem LS (b:UInt8):ub (aC b)=b:=by simp [ub,aC]
theorem I2 (l:List UInt8):(l.map aC).map ub=l:=by
  rw [List.map_map]
  conv=>rhs;rw [←List.map_id l]
  exact List.map_congr_left fun b _=>LS b
theorem Pw (b:UInt8):CZ (aC b):=by
  simp only [CZ,aC];have:=b.toNat_lt;omega
theorem sH (l:List UInt8):Bq (l.map aC):=fun r hr=>by
  obtain ⟨b,_,rfl⟩:=List.mem_map.1 hr
  exact Pw b
def Ed (hp:List ABlk):AV→Prop×List (List DV)
  | .d (.str _)=>(False,[])
  | x=>srcRows hp 1 x
theorem Jk (hp:List ABlk) (x:AV) (h:∀ l,x≠.d (.str l)):Ed hp x=srcRows hp 1 x:=by
  unfold Ed;split
  · exact absurd rfl (h _)
  · rfl
def fp (T:TypeId→TI) (hp:List ABlk) (src dst:TypeId) (vx:AV):PR:=
  match (T src).kind,(T dst).kind with
  | .slice e,.str=>⟨cI vx∧(match (T e).kind with | .int .u8=>True | _=>False)∧(Ed hp (ai vx)).1∧Bq (Ed hp (ai vx)).2,.d (.str ((Ed hp (ai vx)).2.map ub))⟩
  | k,_=>⟨(k matches .other)=false∧(g1 vx (pX (T dst))).ok,(g1 vx (pX (T dst))).v⟩
def jV (T:TypeId→TI) (hp:List ABlk) (src dst:TypeId) (vx:AV):MR:=
  match (T src).kind,(T dst).kind,ai vx with
  | .str,.slice e,.d (.str l)=>⟨cI vx∧(match (T e).kind with | .int .u8=>True | _=>False),.osl hp.length 1 0 l.length,hp++[.bytes l]⟩
  | _,_,_=>⟨(fp T hp src dst vx).ok,(fp T hp src dst vx).v,hp⟩
section
variable {P:Program} {E:Ent} {ρ:List (Option (Nat×Nat))} {hp:List ABlk} {w:World}
theorem B2 {T:TypeId→TI} {e:TypeId} (h:match (T e).kind with | .int .u8=>True | _=>False):(T e).kind=.int .u8:=by
  split at h
  · assumption
  · exact h.elim
theorem nY (b o j:Nat):(Addr.mk b o none).add j=⟨b,o+j,none⟩:=by
  unfold Addr.add
  by_cases h:j=0
  · simp [h]
  · simp [h]
theorem DR (hB:nI ρ (okB E ρ hp w) w hp) {x:AV} {u:Value} (hx:RepV ρ (okB E ρ hp w) w x u) (h:(srcRows hp 1 x).1) (h8:Bq (srcRows hp 1 x).2)
    {e dst src:TypeId} (hs:P.underlying src=some (.slice e)) (he:P.underlying e=some (.int .u8)) (hd:P.underlying dst=some .string) (hstr:∀ l,x≠.d (.str l)) :
    ∀ w',Below w.heap.size w w'→(convert src dst u).run P w'=.ok (aG ((srcRows hp 1 x).2.map ub)) w':=by
  have hnil:∀ (A:Option Addr) (c:Nat) (w':World),(convert src dst (.slice A 0 c)).run P w'=.ok (aG []) w':=by
    intro A c w'
    cases A with
    | none=>
      rw [run_convert_bytes_string w' src dst e none 0 c hs he hd]
      rfl
    | some a=>exact run_convert_bytes_back w' src dst e a c [] hs he hd (fun j hj=>by simp at hj)
  have hcell:∀ {c:List DV} {v:Value} {ok:Nat→Prop},CZ c→∀ y,c[0]?=some y→RepD ok w y v→v=.int .u8 ((ub c).toNat:Int):=by
    intro c v ok h y hy hr
    unfold CZ at h
    split at h
    · rename_i n
      simp at hy;subst hy
      cases hr
      simp only [ub]
      have:n.toNat % 256=n.toNat:=Nat.mod_eq_of_lt (by omega)
      simp [this];omega
    · exact h.elim
  unfold srcRows at h h8 ⊢
  split at h
  · rename_i sz' rows
    simp only at h h8 ⊢
    subst h
    cases hx with | d _ _ hx=>cases hx with | sl _ _ A cap uu hcap hsz hc hr=>
    intro w' hb
    by_cases h0:0 < rows.length
    · obtain ⟨b,o,rfl,hb1,hcells⟩:=hc h0
      have:=run_convert_bytes_back (P:=P) w' src dst e ⟨b,o,none⟩ cap (rows.map ub) hs he hd (fun j hj=>by
        have hjl:j < rows.length:=by simpa using hj
        have hrow:rows[j]?=some rows[j]:=List.getElem?_eq_getElem hjl
        have hlen:=hsz _ (List.getElem_mem hjl)
        have h0':(rows[j])[0]?=some ((rows[j])[0]'(by omega)):=List.getElem?_eq_getElem (by omega)
        have q:=hcells j _ hrow 0 _ h0'
        have q2:=hcell (h8 _ (List.getElem_mem hjl)) _ h0' (hr j _ hrow 0 _ h0')
        rw [q2] at q
        have hbl:w'.heap[b]?=w.heap[b]?:=hb.block b hb1.2.1
        have q3:=(bt (o:=o+(j*1+0)) hbl).trans q
        simp only [Nat.mul_one,Nat.add_zero] at q3
        rw [nY,List.getElem_map];exact q3)
      simpa [aG] using this
    · have:rows=[]:=List.eq_nil_of_length_eq_zero (by omega)
      subst this
      exact hnil _ _ _
  · exact absurd rfl (hstr _)
  · simp only
    cases hx with | d _ _ hx=>
    obtain ⟨A,rfl⟩:=gW hx
    intro w' _
    exact hnil _ _ _
  · rename_i k sz' off n
    split at h
    · rename_i sz2 rs hk
      simp only [hk] at h h8 ⊢
      obtain ⟨e1,e2,e3⟩:=h
      subst e1;subst e2
      intro w' hb
      cases hx with
      | oslnil _ _ A hk'=>simpa using hnil _ _ _
      | osl _ _ _ _ b m cap hρ hm hn=>
        obtain ⟨us,ty,fz,hw,hum,hone,hrl,hsz,hr⟩:=hB.1 k _ b m hk hρ (by simp)
        have hlen:((rs.drop off).take n).length=n:=aA _ _ _ e3
        have hbl:w'.heap[b]?=w.heap[b]?:=hb.block b (aJ hw)
        have:=run_convert_bytes_back (P:=P) w' src dst e ⟨b,off*1,none⟩ cap (((rs.drop off).take n).map ub) hs he hd (fun j hj=>by
          have hjl:j < ((rs.drop off).take n).length:=by simpa using hj
          have hrow:((rs.drop off).take n)[j]?=some ((rs.drop off).take n)[j]:=List.getElem?_eq_getElem hjl
          have hrow':=(aj _ _ _ _ _ hrow).1
          have hl1:=hrl _ (List.mem_of_getElem? hrow')
          have h0':(((rs.drop off).take n)[j])[0]?=some ((((rs.drop off).take n)[j])[0]'(by omega)):=List.getElem?_eq_getElem (by omega)
          have hlt:off+j < rs.length:=(List.getElem?_eq_some_iff.1 hrow').1
          have hcu:us[(off+j)*1+0]?=some (us[(off+j)*1+0]'(by omega)):=Array.getElem?_eq_getElem (by omega)
          have q2:=hcell (h8 _ (List.getElem_mem hjl)) _ h0' (hr (off+j) _ hrow' 0 _ _ h0' hcu)
          have q:w.cell? ⟨b,(off+j)*1+0,none⟩=some (us[(off+j)*1+0]'(by omega)):=by rw [aM hw];exact hcu
          rw [q2] at q
          have q3:=(bt (o:=(off+j)*1+0) hbl).trans q
          simp only [Nat.mul_one,Nat.add_zero] at q3
          rw [nY,List.getElem_map,Nat.mul_one];exact q3)
        rw [List.length_map,hlen] at this
        exact this
    · rename_i sz2 rs hk
      simp only [hk] at h h8 ⊢
      obtain ⟨e1,e2,e3⟩:=h
      subst e1;subst e2
      intro w' hb
      cases hx with
      | oslnil _ _ A hk'=>simpa using hnil _ _ _
      | osl _ _ _ _ b m cap hρ hm hn=>
        obtain ⟨us,ty,fz,hw,hum,hone,hrl,hsz,hr⟩:=hB.1 k _ b m hk hρ (by simp)
        have hlen:((rs.drop off).take n).length=n:=aA _ _ _ e3
        have hbl:w'.heap[b]?=w.heap[b]?:=hb.block b (aJ hw)
        have:=run_convert_bytes_back (P:=P) w' src dst e ⟨b,off*1,none⟩ cap (((rs.drop off).take n).map ub) hs he hd (fun j hj=>by
          have hjl:j < ((rs.drop off).take n).length:=by simpa using hj
          have hrow:((rs.drop off).take n)[j]?=some ((rs.drop off).take n)[j]:=List.getElem?_eq_getElem hjl
          have hrow':=(aj _ _ _ _ _ hrow).1
          have hl1:=hrl _ (List.mem_of_getElem? hrow')
          have h0':(((rs.drop off).take n)[j])[0]?=some ((((rs.drop off).take n)[j])[0]'(by omega)):=List.getElem?_eq_getElem (by omega)
          have hlt:off+j < rs.length:=(List.getElem?_eq_some_iff.1 hrow').1
          have hcu:us[(off+j)*1+0]?=some (us[(off+j)*1+0]'(by omega)):=Array.getElem?_eq_getElem (by omega)
          have q2:=hcell (h8 _ (List.getElem_mem hjl)) _ h0' (hr (off+j) _ hrow' 0 _ _ h0' hcu)
          have q:w.cell? ⟨b,(off+j)*1+0,none⟩=some (us[(off+j)*1+0]'(by omega)):=by rw [aM hw];exact hcu
          rw [q2] at q
          have q3:=(bt (o:=(off+j)*1+0) hbl).trans q
          simp only [Nat.mul_one,Nat.add_zero] at q3
          rw [nY,List.getElem_map,Nat.mul_one];exact q3)
        rw [List.length_map,hlen] at this
        exact this
    · rename_i l hk
      simp only [hk] at h h8 ⊢
      obtain ⟨e1,_,e3⟩:=h
      subst e1
      generalize hrs:l.map aC=rs at *
      intro w' hb
      cases hx with
      | oslnil _ _ A hk'=>simpa using hnil _ _ _
      | osl _ _ _ _ b m cap hρ hm hn=>
        obtain ⟨us,ty,fz,hw,hum,hone,hrl,hsz,hr⟩:=hB.1 k _ b m hk hρ (by simp)
        rw [hrs] at hrl hsz hr
        have hlen:((rs.drop off).take n).length=n:=aA _ _ _ e3
        have hbl:w'.heap[b]?=w.heap[b]?:=hb.block b (aJ hw)
        have:=run_convert_bytes_back (P:=P) w' src dst e ⟨b,off*1,none⟩ cap (((rs.drop off).take n).map ub) hs he hd (fun j hj=>by
          have hjl:j < ((rs.drop off).take n).length:=by simpa using hj
          have hrow:((rs.drop off).take n)[j]?=some ((rs.drop off).take n)[j]:=List.getElem?_eq_getElem hjl
          have hrow':=(aj _ _ _ _ _ hrow).1
          have hl1:=hrl _ (List.mem_of_getElem? hrow')
          have h0':(((rs.drop off).take n)[j])[0]?=some ((((rs.drop off).take n)[j])[0]'(by omega)):=List.getElem?_eq_getElem (by omega)
          have hlt:off+j < rs.length:=(List.getElem?_eq_some_iff.1 hrow').1
          have hcu:us[(off+j)*1+0]?=some (us[(off+j)*1+0]'(by omega)):=Array.getElem?_eq_getElem (by omega)
          have q2:=hcell (h8 _ (List.getElem_mem hjl)) _ h0' (hr (off+j) _ hrow' 0 _ _ h0' hcu)
          have q:w.cell? ⟨b,(off+j)*1+0,none⟩=some (us[(off+j)*1+0]'(by omega)):=by rw [aM hw];exact hcu
          rw [q2] at q
          have q3:=(bt (o:=(off+j)*1+0) hbl).trans q
          simp only [Nat.mul_one,Nat.add_zero] at q3
          rw [nY,List.getElem_map,Nat.mul_one];exact q3)
        rw [List.length_map,hlen] at this
        exact this
    · exact h.elim
  · exact h.elim
theorem wb (T:TypeId→TI) (ok:Nat→Prop) (l:List UInt8) (cap:Nat):dr ρ ok w (bytesRow ⟨l.toArray⟩ cap) (.bytes l):=by
  refine ⟨fun u hu=>?_,fun r hr=>?_,?_,fun i r hi j c u hj hu=>?_⟩
  · simp only [bytesRow,Array.toList_append,List.mem_append,Array.toList_map,List.mem_map,Array.toList_replicate,List.mem_replicate] at hu
    rcases hu with ⟨b,_,rfl⟩ | ⟨_,rfl⟩<;>rfl
  · obtain ⟨b,_,rfl⟩:=List.mem_map.1 hr;rfl
  · simp [bytesRow]
  · rw [List.getElem?_map] at hi
    obtain ⟨b,hb,rfl⟩:=Option.map_eq_some_iff.1 hi
    match j,hj with
    | 0,hj=>
      simp [aC] at hj;subst hj
      have hil:i < l.length:=(List.getElem?_eq_some_iff.1 hb).1
      simp only [bytesRow,Nat.mul_one,Nat.add_zero] at hu
      rw [Array.getElem?_append_left (by simpa using hil)] at hu
      simp [hb] at hu
      subst hu
      exact .int _ _
    | j+1,hj=>simp [aC] at hj
theorem ol {T:TypeId→TI} (hT:an P T) {a:Act} (hB:nI ρ (okB E ρ hp w) w hp) (hlt:∀ b,okB E ρ hp w b→b < w.heap.size) {src dst:TypeId} {vx:AV} {x:Operand} (hx:RepV ρ (okB E ρ hp w) w vx (a.eval x))
    (hk:(fp T hp src dst vx).ok):∃ u,RepV ρ (okB E ρ hp w) w (fp T hp src dst vx).v u∧∀ w',Below w.heap.size w w'→(convert src dst (a.eval x)).run P w'=.ok u w':=by
  revert hk
  unfold fp
  split
  · rename_i e hs hd
    intro ⟨hg,h8,h1,h2⟩
    have hx':=ah hx hg
    have hstr:∀ l,ai vx≠.d (.str l):=fun l hl=>by rw [hl] at h1;exact h1
    rw [Jk _ _ hstr] at h1 h2 ⊢
    exact ⟨_,.d _ _ (.str _),DR hB hx' h1 h2 (aw hT hs) (lO hT (B2 h8)) (fx hT hd) hstr⟩
  · rename_i k k' hne
    intro ⟨h1,h2⟩
    obtain ⟨hg,h2⟩:=h2
    obtain ⟨u,hu,hr⟩:=uh (P:=P) hT src dst _ _ (let ⟨d,hd⟩:=(aE hT (am h1)).und;⟨d,hd.1⟩) (ah hx hg) h2
    exact ⟨u,hu,fun w' _=>hr w'⟩
theorem wk {T:TypeId→TI} (hT:an P T) {a:Act} (h:RepH E ρ hp w) {src dst:TypeId} {vx:AV} {x:Operand} (hx:RepV ρ (okB E ρ hp w) w vx (a.eval x))
    (hk:(jV T hp src dst vx).ok):∃ u w' ρ',RepV ρ' (okB E ρ' (jV T hp src dst vx).hp w') w' (jV T hp src dst vx).v u∧HStep E ρ hp w ρ' (jV T hp src dst vx).hp w'∧(convert src dst (a.eval x)).run P w=.ok u w':=by
  revert hk
  unfold jV
  split
  · rename_i e l hs hd hv
    intro ⟨hg,h8⟩
    have hx':=ah hx hg
    rw [hv] at hx'
    generalize hu:a.eval x=u at hx'
    cases hx' with | d _ _ hx'=>cases hx' with | str _=>
    have hrun:=run_bytes_of_string (P:=P) w src dst e ⟨l.toArray⟩ (fx hT hs) (aw hT hd) (lO hT (B2 h8))
    have hd0:Below w.heap.size w w.drew:=⟨rfl,rfl,rfl,Nat.le_refl _,fun _ _=>rfl⟩
    have h0:=HStep.below h hd0
    have hb:=wb (ρ:=ρ) (w:=w.drew) T (okB E ρ hp w.drew) l (grownCap w l.length 0 e)
    have hsz:(bytesRow ⟨l.toArray⟩ (grownCap w l.length 0 e)).size=l.length+(grownCap w l.length 0 e - l.length):=by simp [bytesRow,jO]
    have hge:l.length≤grownCap w l.length 0 e:=by
      have:=grownCap_ge w l.length 0 e
      omega
    have hp1:=HStep.push h0.heap (bytesRow ⟨l.toArray⟩ (grownCap w l.length 0 e)) e ((bytesRow ⟨l.toArray⟩ (grownCap w l.length 0 e)).size,(bytesRow ⟨l.toArray⟩ (grownCap w l.length 0 e)).size+1) (.bytes l)
      (fun j hj hh=>by omega) (.inl ⟨_,rfl⟩) hb
    refine ⟨_,_,_,?_,h0.trans hp1,hrun⟩
    have:=RepV.osl (ρ:=ρ++[some (w.drew.heap.size,(bytesRow ⟨l.toArray⟩ (grownCap w l.length 0 e)).size)]) (ok:=okB E (ρ++[some (w.drew.heap.size,(bytesRow ⟨l.toArray⟩ (grownCap w l.length 0 e)).size)]) (hp++[.bytes l]) (pushB w.drew (.cells (bytesRow ⟨l.toArray⟩ (grownCap w l.length 0 e)) e ((bytesRow ⟨l.toArray⟩ (grownCap w l.length 0 e)).size,(bytesRow ⟨l.toArray⟩ (grownCap w l.length 0 e)).size+1))))
      (w:=pushB w.drew (.cells (bytesRow ⟨l.toArray⟩ (grownCap w l.length 0 e)) e ((bytesRow ⟨l.toArray⟩ (grownCap w l.length 0 e)).size,(bytesRow ⟨l.toArray⟩ (grownCap w l.length 0 e)).size+1)))
      hp.length 1 0 l.length w.drew.heap.size (bytesRow ⟨l.toArray⟩ (grownCap w l.length 0 e)).size (grownCap w l.length 0 e) (by rw [←h.len];simp) (by rw [hsz];simp only [Nat.zero_add,Nat.mul_one];omega) hge
    exact this
  · intro hk
    obtain ⟨u,hu,hr⟩:=ol hT h.blks (fun b hb=>hb.2.1) hx hk
    have hb0:Below w.heap.size w w:=⟨rfl,rfl,rfl,Nat.le_refl _,fun _ _=>rfl⟩
    exact ⟨u,w,ρ,hu,HStep.below h hb0,hr w hb0⟩
end
def au (s:ASt):Operand→AV
  | .tmp t=>bR s.env t
  | .const (.int k n)=>.d (.int k n)
  | .const (.bool b)=>.d (.bool b)
  | .const (.string b)=>.d (.str b.data.toList)
  | .const (.slice none 0 0)=>.d (.sc (.slice none 0 0))
  | .const (.pointer none)=>.d (.sc (.pointer none))
  | .func f=>.d (.sc (.func (.func f) #[] #[]))
  | _=>.any
def Ly (want b:Bool):Bool:=bif want then b else !b
def mK (want:Bool):AV→Option Bool
  | .d (.bool b)=>some (Ly want b)
  | .gd g (.d (.bool b))=>some (g&&Ly want b)
  | _=>none
def ua (ops:Array Oper) (env:List (Nat×AV)) (j:Nat):AV:=
  match (ops[j]?).bind (·.dst) with
  | some t=>bR env t
  | none=>.any
def goFn (P : Program) (g : FuncId) : Prop := ∃ fn, P.funcs[g]? = some fn ∧ (fn.name == "runtime.NumGoroutine") = false ∧ fn.body.isNone = false
def ga (ρ:List (Option (Nat×Nat))) (ok:Nat→Prop) (w:World) (xs:List AV) (us:List Value):Prop:=
  us.length=xs.length∧∀ (j:Nat) (x:AV) (u:Value),xs[j]?=some x→us[j]?=some u→RepV ρ ok w x u
def ab (P:Program) (hp:List ABlk) (g:FuncId) (xs:List AV) (R:AV→List ABlk→Prop):Prop:=
  goFn P g∧∀ (E:Ent) (w:World) (us:List Value),E.w0=w→RepH E E.ρ0 hp w→ga E.ρ0 (okB E E.ρ0 hp w) w xs us→
    Calls P g us.toArray w fun e w'=>∃ u v hp' ρ',e=.returned u∧R v hp'∧RepH E ρ' hp' w'∧(∀ (k:Nat) (p:Option (Nat×Nat)),E.ρ0[k]?=some p→ρ'[k]?=some p)∧RepV ρ' (okB E ρ' hp' w') w' v u
def oD (P:Program) (hp:List ABlk) (g:FuncId) (xs:List AV) (K:AV→List ABlk→Prop):Prop:=
  goFn P g∧∀ (E:Ent) (ρ:List (Option (Nat×Nat))) (w:World) (us:List Value),RepH E ρ hp w→ga ρ (okB E ρ hp w) w xs us→
    Calls P g us.toArray w fun e w'=>∃ u v hp' ρ',e=.returned u∧K v hp'∧HStep E ρ hp w ρ' hp' w'∧RepV ρ' (okB E ρ' hp' w') w' v u
def vf (P:Program) (hp:List ABlk) (g:FuncId) (xs:List AV) (x:AV):Prop:=
  goFn P g∧∀ (E:Ent) (ρ:List (Option (Nat×Nat))) (w:World) (us:List Value),RepH E ρ hp w→ga ρ (okB E ρ hp w) w xs us→
    ∃ u,RepV ρ (okB E ρ hp w) w x u∧∀ w',Below w.heap.size w w'→Calls P g us.toArray w' fun e w''=>e=.returned u∧Below w'.heap.size w' w''
structure Tok {α:Type} (x:α) where
def u6 (P:Program) (hp:List ABlk) (g:FuncId) (xs:List AV) (x:AV):Prop:=
  ∀ (E:Ent) (ρ:List (Option (Nat×Nat))) (w:World) (us:List Value),RepH E ρ hp w→ga ρ (okB E ρ hp w) w xs us→
    ∃ u,RepV ρ (okB E ρ hp w) w x u∧∀ w',Below w.heap.size w w'→(callFunc g us.toArray).run P w'=.ok (.value u) w'
def lx (P:Program) (hp:List ABlk) (g:FuncId) (xs:List AV) (K:AV→Prop) (_:Tok K):Prop:=∃ v,(vf P hp g xs v∨u6 P hp g xs v)∧K v
def Me (P:Program) (np:Nat) (hp:List ABlk) (g:FuncId) (xs:List AV) (K:AV→List ABlk→Prop):Prop:=
  goFn P g∧∀ (E:Ent) (ρ:List (Option (Nat×Nat))) (w:World) (us:List Value),E.ρ0.length=np→RepH E ρ hp w→ga ρ (okB E ρ hp w) w xs us→
    Calls P g us.toArray w fun e w'=>∃ u v hp' ρ',e=.returned u∧K v hp'∧HStep E ρ hp w ρ' hp' w'∧RepV ρ' (okB E ρ' hp' w') w' v u
def bY (P:Program) (np:Nat) (hp:List ABlk) (g:FuncId) (xs:List AV) (K:AV→List ABlk→Prop) (_:Tok K):Prop:=Me P np hp g xs K∨∃ v,u6 P hp g xs v∧K v hp
theorem gP {P:Program} {np:Nat} {hp:List ABlk} {g:FuncId} {xs:List AV} {K:AV→List ABlk→Prop} {t:Tok K} (h:oD P hp g xs K):bY P np hp g xs K t:=
  .inl ⟨h.1,fun E ρ w us _=>h.2 E ρ w us⟩
def jN:AV→Option (FuncId×List AV×List AV)
  | .d (.sc (.func (.func g) first caps))=>if first.size=0∧caps.size=0 then some (g,[],[]) else none
  | .clo g first caps=>some (g,first,caps)
  | _=>none
def Fd (ti:TI):AV:=
  match ti.kind with
  | .int k=>.d (.int k 0)
  | .str=>.d (.str [])
  | .slice _=>.d (.sc (.slice none 0 0))
  | _=>if ti.size=1 then .d (.bool false) else .agg (ti.zero.map AV.d)
def mS:Op→Bool
  | .move _ | .assign _ | .pick .. | .load .. | .nilCheck _ | .binOp .. | .unOp .. | .slice .. | .fieldAddr .. | .field .. | .indexAddr .. | .index .. | .extract .. | .build .. | .makeFunc ..=>true
  | .call { callee:=.builtin .cap,.. } | .call { callee:=.builtin .len,.. } | .call { callee:=.builtin .min,.. } | .call { callee:=.builtin .max,.. }=>true
  | _=>false
section
variable (P:Program) (T:TypeId→TI)
def rA (s:ASt) (dst:Option Tmp) (op:Op) (K:ASt→Prop):Prop:=
  match op with
  | .alloc t=>(mL (T t) s.hp).ok∧K { s with env:=eG s.env dst (mL (T t) s.hp).v,hp:=(mL (T t) s.hp).hp }
  | .box _ x=>(AZ (au s x) s.hp).ok∧K { s with env:=eG s.env dst (AZ (au s x) s.hp).v,hp:=(AZ (au s x) s.hp).hp }
  | .buildSlice t len parts=>iu (parts.toList.map fun p=>au s p.2)∧(dR s.np s.hp (parts.toList.map fun p=>(p.1,ai (au s p.2)))).1∧
      (dk T (T t) len (dR s.np s.hp (parts.toList.map fun p=>(p.1,ai (au s p.2)))).2.1 (dR s.np s.hp (parts.toList.map fun p=>(p.1,ai (au s p.2)))).2.2).ok∧
      K { s with env:=eG s.env dst (dk T (T t) len (dR s.np s.hp (parts.toList.map fun p=>(p.1,ai (au s p.2)))).2.1 (dR s.np s.hp (parts.toList.map fun p=>(p.1,ai (au s p.2)))).2.2).v,hp:=(dk T (T t) len (dR s.np s.hp (parts.toList.map fun p=>(p.1,ai (au s p.2)))).2.1 (dR s.np s.hp (parts.toList.map fun p=>(p.1,ai (au s p.2)))).2.2).hp }
  | .makeSlice t x y=>cI (au s x)∧cI (au s y)∧(pH T (T t) (ai (au s x)) (ai (au s y)) s.hp).ok∧
      K { s with env:=eG s.env dst (pH T (T t) (ai (au s x)) (ai (au s y)) s.hp).v,hp:=(pH T (T t) (ai (au s x)) (ai (au s y)) s.hp).hp }
  | .store t x y=>cI (au s x)∧cI (au s y)∧(jM (T t) (ai (au s x)) (ai (au s y)) s.hp).ok∧
      K { s with env:=eG s.env dst .any,hp:=(jM (T t) (ai (au s x)) (ai (au s y)) s.hp).hp }
  | .convert src dt x=>(jV T s.hp src dt (au s x)).ok∧K { s with env:=eG s.env dst (jV T s.hp src dt (au s x)).v,hp:=(jV T s.hp src dt (au s x)).hp }
  | .makeMap _ none=>(iS s.hp).ok∧K { s with env:=eG s.env dst (iS s.hp).v,hp:=(iS s.hp).hp }
  | .mapUpdate t x k v=>cI (au s x)∧cI (au s k)∧cI (au s v)∧(jX T t (ai (au s x)) (ai (au s k)) (ai (au s v)) s.hp).ok∧
      K { s with env:=eG s.env dst .any,hp:=(jX T t (ai (au s x)) (ai (au s k)) (ai (au s v)) s.hp).hp }
  | .lookup t x k false=>cI (au s x)∧cI (au s k)∧(jh T t (ai (au s x)) (ai (au s k)) s.hp).ok∧
      K { s with env:=eG s.env dst (jh T t (ai (au s x)) (ai (au s k)) s.hp).v }
  | .call { callee:=.builtin .append,args,argTypes }=>
    (match args.toList,argTypes.toList with
    | [x,y],[t,t']=>cI (au s x)∧cI (au s y)∧(fU T t t' (ai (au s x)) (ai (au s y)) s.hp).ok∧
        K { s with env:=eG s.env dst (fU T t t' (ai (au s x)) (ai (au s y)) s.hp).v,hp:=(fU T t t' (ai (au s x)) (ai (au s y)) s.hp).hp }
    | _,_=>False)
  | .call { callee:=.builtin .copy,args,argTypes }=>
    (match args.toList,argTypes.toList with
    | [x,y],[t,t']=>cI (au s x)∧cI (au s y)∧(ai (au s y) matches .d (.str _))=false∧(pR T t t' (ai (au s x)) (ai (au s y)) s.hp).ok∧
        K { s with env:=eG s.env dst (pR T t t' (ai (au s x)) (ai (au s y)) s.hp).v,hp:=(pR T t t' (ai (au s x)) (ai (au s y)) s.hp).hp }
    | _,_=>False)
  | .call { callee:=.builtin .clear,args,argTypes }=>
    (match args.toList,argTypes.toList with
    | [x],[t]=>cI (au s x)∧(k8 T t (ai (au s x)) s.hp).ok∧
        K { s with env:=eG s.env dst (k8 T t (ai (au s x)) s.hp).v,hp:=(k8 T t (ai (au s x)) s.hp).hp }
    | _,_=>False)
  | .call { callee:=.value f,args,.. }=>
    (match jN (ai (au s f)) with
    | some (g,first,caps)=>cI (au s f)∧iu (args.toList.map (au s))∧bY P s.np s.hp g (first++args.toList.map (fun x=>ai (au s x))++caps) (fun v hp=>K { s with env:=eG s.env dst v,hp:=hp }) ⟨⟩
    | none=>False)
  | _=>False
def mN (g:Bool) (p:Prop×Prop) (_:Tok p):Prop:=(g=true→p.1)∧(g=false→p.2)
theorem xj {p:Prop×Prop} (t:Tok p):mN true p t=p.1:=by simp [mN]
theorem vH {p:Prop×Prop} (t:Tok p):mN false p t=p.2:=by simp [mN]
theorem aunder_i {g:Bool} {p q:Prop} {t:Tok (p,q)} (h1:g=true→p) (h2:g=false→q):mN g (p,q) t:=⟨h1,h2⟩
def qP (ti:TI) (v:AV):Option Nat:=
  match ti.kind,v with
  | .slice _,.d (.sl _ rows)=>some rows.length
  | .slice _,.osl _ _ _ n=>some n
  | .slice _,.d (.sc (.slice none 0 0))=>some 0
  | _,_=>none
def qA (vl:Operand→AV):Op→Option (Bool×Nat)
  | .binOp .eql t x (.const (.slice none 0 0)) _=>(qP (T t) (vl x)).map fun n=>(false,n)
  | .binOp .neq t x (.const (.slice none 0 0)) _=>(qP (T t) (vl x)).map fun n=>(true,n)
  | _=>none
def lv (ops:Array Oper) (s:ASt) (o:Oper) (neg:Bool) (n:Nat) (K:ASt→Prop):Prop:=
  match o.guard with
  | none=>fh s.nt o.dst∧∀ b:Bool,(0 < n→b=false)→K { s with env:=eG s.env o.dst (.d (.bool (b != neg))) }
  | some (j,want)=>
    match mK want (ua ops s.env j) with
    | none=>False
    | some g=>fh s.nt o.dst∧∀ b:Bool,(0 < n→b=false)→K { s with env:=eG s.env o.dst (.gd g (.d (.bool (b != neg)))) }
def vj (ops:Array Oper) (s:ASt) (o:Oper) (K:ASt→Prop):Prop:=
  match o.guard with
  | none=>
    if mS o.op then (fc T s.hp (au s) o.op).ok∧fh s.nt o.dst∧K { s with env:=eG s.env o.dst (fc T s.hp (au s) o.op).v }
    else fh s.nt o.dst∧rA P T s o.dst o.op K
  | some (j,want)=>
    match mK want (ua ops s.env j) with
    | none=>False
    | some g=>
      if mS o.op then (g=true→(fc T s.hp (au s) o.op).ok)∧fh s.nt o.dst∧K { s with env:=eG s.env o.dst (.gd g (fc T s.hp (au s) o.op).v) }
      else fh s.nt o.dst∧mN g (rA P T s o.dst o.op K,K { s with env:=eG s.env o.dst (.gd false (Fd (T o.type))) }) ⟨⟩
def kX (ops:Array Oper) (s:ASt) (o:Oper) (K:ASt→Prop):Prop:=
  match qA T (au s) o.op with
  | some (neg,n)=>lv ops s o neg n K
  | none=>vj P T ops s o K
def AG (ops:Array Oper) (Q:ASt→Prop):List Oper→ASt→Prop
  | [],s=>Q s
  | o::r,s=>kX P T ops s o (AG ops Q r)
def nl (ops:Array Oper) (s:ASt) (o:Oper) (K:ASt→Prop):Prop:=
  match o.guard with
  | none=>
    if mS o.op then (fc T s.hp (au s) o.op).ok∧fh s.nt o.dst∧K { s with env:=eG s.env o.dst (fc T s.hp (au s) o.op).v }
    else match o.op with
      | .convert src dst x=>(fp T s.hp src dst (au s x)).ok∧fh s.nt o.dst∧K { s with env:=eG s.env o.dst (fp T s.hp src dst (au s x)).v }
      | .call { callee:=.value f,args,.. }=>
        (match jN (ai (au s f)) with
        | some (g,first,caps)=>cI (au s f)∧iu (args.toList.map (au s))∧fh s.nt o.dst∧lx P s.hp g (first++args.toList.map (fun x=>ai (au s x))++caps) (fun v=>K { s with env:=eG s.env o.dst v }) ⟨⟩
        | none=>False)
      | _=>False
  | some (j,want)=>
    match mK want (ua ops s.env j) with
    | none=>False
    | some g=>
      if mS o.op then (g=true→(fc T s.hp (au s) o.op).ok)∧fh s.nt o.dst∧K { s with env:=eG s.env o.dst (.gd g (fc T s.hp (au s) o.op).v) }
      else match o.op with
        | .call { callee:=.value f,args,.. }=>
          (match jN (ai (au s f)) with
          | some (h,first,caps)=>fh s.nt o.dst∧mN g (cI (au s f)∧iu (args.toList.map (au s))∧lx P s.hp h (first++args.toList.map (fun x=>ai (au s x))++caps) (fun v=>K { s with env:=eG s.env o.dst v }) ⟨⟩,
              K { s with env:=eG s.env o.dst (.gd false (Fd (T o.type))) }) ⟨⟩
          | none=>False)
        | .convert src dst x=>(g=true→(fp T s.hp src dst (au s x)).ok)∧fh s.nt o.dst∧K { s with env:=eG s.env o.dst (.gd g (fp T s.hp src dst (au s x)).v) }
        | _=>False
def fm (ops:Array Oper) (s:ASt) (o:Oper) (K:ASt→Prop):Prop:=
  match qA T (au s) o.op with
  | some (neg,n)=>lv ops s o neg n K
  | none=>nl P T ops s o K
def nV (ops:Array Oper) (Q:ASt→Prop):List Oper→ASt→Prop
  | [],s=>Q s
  | o::r,s=>fm P T ops s o (nV ops Q r)
def MC (c:AV) (p q:Prop):Prop:=
  match c with
  | .d (.bool b)=>(b=true→p)∧(b=false→q)
  | _=>False
def AWP (c:Code) (s:ASt) (Q:Exit→ASt→Prop):Prop:=
  ∀ (E:Ent) (ρ:List (Option (Nat×Nat))) (a:Act) (w:World),Rep E s ρ a w→c.wp P (fun e a' w'=>∃ s' ρ',Rep E s' ρ' a' w'∧Q e s') a w
def xD:Op→Bool
  | .call { callee:=.value _,.. }=>true
  | .convert ..=>true
  | _=>false
def JL (ops:Array Oper):Bool:=ops.toList.all fun o=>mS o.op || xD o.op
end
section
variable {P:Program} {T:TypeId→TI} {E:Ent} {s:ASt} {ρ:List (Option (Nat×Nat))} {a:Act} {w:World}
theorem bC (h:Rep E s ρ a w) (x:Operand):RepV ρ (okB E ρ s.hp w) w (au s x) (a.eval x):=by
  unfold au
  split
  · exact h.env _
  · exact .d _ _ (.int _ _)
  · exact .d _ _ (.bool _)
  · rename_i b
    have:aG b.data.toList=.string b:=by simp [aG]
    have h2:=RepD.str (ok:=okB E ρ s.hp w) (w:=w) b.data.toList
    rw [this] at h2
    exact .d _ _ h2
  · exact .d _ _ (.sc _ rfl)
  · exact .d _ _ (.sc _ rfl)
  · exact .d _ _ (.sc _ rfl)
  · exact .any _
theorem Rep.lt (_h:Rep E s ρ a w):∀ b,okB E ρ s.hp w b→b < w.heap.size:=fun _ hb=>hb.2.1
theorem m9 (hT:an P T) (h:Rep E s ρ a w) (o:Oper) (hk:(fc T s.hp (au s) o.op).ok) :
    ∃ u,RepV ρ (okB E ρ s.hp w) w (fc T s.hp (au s) o.op).v u∧∀ w',Below w.heap.size w w'→(execOp a.eval o).run P w'=.ok (.value u) w':=
  let ⟨u,h1,h2⟩:=pJ hT h.lt h.heap.blks (bC h) o hk
  ⟨u,h1,fun w' hb=>h2 w' fun _=>hb⟩
theorem sA (hT:an P T) (h:Rep E s ρ a w) (o:Oper) (hl:EJ o.op=false) (hk:(fc T s.hp (au s) o.op).ok) :
    ∃ u,RepV ρ (okB E ρ s.hp w) w (fc T s.hp (au s) o.op).v u∧∀ w',(execOp a.eval o).run P w'=.ok (.value u) w':=
  let ⟨u,h1,h2⟩:=pJ hT h.lt h.heap.blks (bC h) o hk
  ⟨u,h1,fun w'=>h2 w' fun e=>by rw [hl] at e;cases e⟩
theorem gZ (w:World):Below w.heap.size w w:=⟨rfl,rfl,rfl,Nat.le_refl _,fun _ _=>rfl⟩
theorem ek {ops:Array Oper} {o:Oper} {j:Nat} {want g:Bool} (h:Rep E s ρ a w) (hg:o.guard=some (j,want)) (ha:mK want (ua ops s.env j)=some g) :
    Region.wanted o (yielded ops a.tmps)=g:=by
  unfold ua at ha
  unfold Region.wanted yielded
  rw [hg]
  simp only
  cases hd:(ops[j]?).bind (·.dst) with
  | none=>rw [hd] at ha;simp [mK] at ha
  | some t=>
    rw [hd] at ha
    simp only at ha
    have hr:=h.env t
    unfold mK at ha
    split at ha
    · rename_i b e
      rw [e] at hr
      injection ha with ha
      generalize hu:a.tmps.getD t undef=u at hr
      cases hr with | d _ _ hr=>cases hr with | bool _=>
      have:a.tmps[t]?=some (.bool b):=by
        rw [Array.getD_eq_getD_getElem?] at hu
        cases hh:a.tmps[t]? with
        | none=>rw [hh] at hu;simp [undef] at hu
        | some v=>rw [hh] at hu;simp at hu;rw [hu]
      simp only [Option.bind_some,this]
      rw [←ha]
      cases b<;>cases want<;>rfl
    · rename_i g' b e
      rw [e] at hr
      injection ha with ha
      generalize hu:a.tmps.getD t undef=u at hr
      cases hr with | gd _ _ _ ht hf=>
      cases g' with
      | true=>
        have hr:=ht rfl
        cases hr with | d _ _ hr=>cases hr with | bool _=>
        have:a.tmps[t]?=some (.bool b):=by
          rw [Array.getD_eq_getD_getElem?] at hu
          cases hh:a.tmps[t]? with
          | none=>rw [hh] at hu;simp [undef] at hu
          | some v=>rw [hh] at hu;simp at hu;rw [hu]
        simp only [Option.bind_some,this]
        rw [←ha]
        cases b<;>cases want<;>rfl
      | false=>
        have:=hf rfl
        subst this
        rw [←ha]
        simp only [Option.bind_some,Bool.false_and]
        cases hh:a.tmps[t]? with
        | none=>simp
        | some v=>
          rw [Array.getD_eq_getD_getElem?,hh] at hu
          simp at hu
          subst hu
          simp [undef]
    · cases ha
theorem wa {g:FuncId} (hg:goFn P g) (us:Array Value) (w:World):(callFunc g us).run P w=.ok (.enter g us) w:=by
  obtain ⟨fn,h1,h2,h3⟩:=hg
  have h3':¬ (fn.body.isNone=true):=by rw [h3];simp
  simp only [callFunc,Sem.run_bind,run_program,Result.andThen_ok,h1]
  simp [h2,h3']
theorem pF {f:Operand} {args:Array Operand} {ats:Array TypeId} {dst:Option Tmp} {ty:TypeId} {pos:String} {after:Array Edge} {guard:Option (Nat×Bool)} {g:FuncId} {us vs:Array Value}
    (hf:a.eval f=.func (.func g) us vs) (hg:goFn P g) (w':World) :
    (execOp a.eval { dst,op:=.call { callee:=.value f,args,argTypes:=ats },type:=ty,pos,after,guard }).run P w'=.ok (.enter g (us++args.map a.eval++vs)) w':=by
  simp only [execOp,resolve,hf,Deferred.ofValue,Sem.run_bind,Sem.run_pure,Result.andThen_ok,invoke]
  exact wa hg _ w'
theorem nK {f:Operand} {args:Array Operand} {ats:Array TypeId} {dst:Option Tmp} {ty:TypeId} {pos:String} {after:Array Edge} {guard:Option (Nat×Bool)} {g:FuncId} {us vs:Array Value}
    (hf:a.eval f=.func (.func g) us vs) (w':World) :
    (execOp a.eval { dst,op:=.call { callee:=.value f,args,argTypes:=ats },type:=ty,pos,after,guard }).run P w'=(callFunc g (us++args.map a.eval++vs)).run P w':=by
  simp only [execOp,resolve,hf,Deferred.ofValue,Sem.run_bind,Sem.run_pure,Result.andThen_ok,invoke]
theorem uV {f:Operand} {g:FuncId} {first caps:List AV} (h:Rep E s ρ a w) (hg:cI (au s f)) (hc:jN (ai (au s f))=some (g,first,caps)) :
    ∃ us vs:List Value,a.eval f=.func (.func g) us.toArray vs.toArray∧ga ρ (okB E ρ s.hp w) w first us∧ga ρ (okB E ρ s.hp w) w caps vs:=by
  have hr:=ah (bC h f) hg
  unfold jN at hc
  split at hc
  · rename_i g' fi ca e
    rw [e] at hr
    split at hc
    · rename_i hz
      injection hc with hc
      injection hc with h1 h2
      injection h2 with h2 h3
      subst h1;subst h2;subst h3
      generalize hu:a.eval f=u at hr
      cases hr with | d _ _ hr=>cases hr with | sc _ _=>
      have e1:fi=#[]:=Array.eq_empty_of_size_eq_zero hz.1
      have e2:ca=#[]:=Array.eq_empty_of_size_eq_zero hz.2
      subst e1;subst e2
      exact ⟨[],[],rfl,⟨rfl,by simp⟩,⟨rfl,by simp⟩⟩
    · cases hc
  · rename_i g' fi ca e
    rw [e] at hr
    injection hc with hc
    injection hc with h1 h2
    injection h2 with h2 h3
    subst h1;subst h2;subst h3
    generalize hu:a.eval f=u at hr
    cases hr with | clo _ _ _ us vs hl hl' hr hr'=>exact ⟨us,vs,rfl,⟨hl,hr⟩,⟨hl',hr'⟩⟩
  · cases hc
theorem gD {ok:Nat→Prop} {xs ys:List AV} {us vs:List Value} (h1:ga ρ ok w xs us) (h2:ga ρ ok w ys vs):ga ρ ok w (xs++ys) (us++vs):=by
  refine ⟨by simp [h1.1,h2.1],fun j x u hx hu=>?_⟩
  by_cases hj:j < xs.length
  · rw [List.getElem?_append_left hj] at hx
    rw [List.getElem?_append_left (by rw [h1.1];exact hj)] at hu
    exact h1.2 j x u hx hu
  · rw [List.getElem?_append_right (by omega)] at hx
    rw [List.getElem?_append_right (by rw [h1.1];omega),h1.1] at hu
    exact h2.2 _ x u hx hu
theorem Cb (h:Rep E s ρ a w) {args:Array Operand} (hg:iu (args.toList.map (au s))):ga ρ (okB E ρ s.hp w) w (args.toList.map fun x=>ai (au s x)) (args.toList.map a.eval):=by
  refine ⟨by simp,fun j x u hx hu=>?_⟩
  rw [List.getElem?_map] at hx hu
  obtain ⟨q,hq,rfl⟩:=Option.map_eq_some_iff.1 hx
  rw [hq] at hu;simp at hu;subst hu
  exact ah (bC h q) (gL hg (j:=j) (by rw [List.getElem?_map,hq];rfl))
theorem iv (us vs:List Value) (args:Array Operand):us.toArray++args.map a.eval++vs.toArray=(us++args.toList.map a.eval++vs).toArray:=by
  apply Array.ext';simp
theorem dD {hp':List ABlk} {ρ':List (Option (Nat×Nat))} {w':World} {dst:Option Tmp} {v:AV} {u:Value} (h:Rep E s ρ a w) (hd:fh s.nt dst) (hs:HStep E ρ s.hp w ρ' hp' w')
    (hv:RepV ρ' (okB E ρ' hp' w') w' v u):Rep E { s with env:=eG s.env dst v,hp:=hp' } ρ' (a.put dst u) w':=
  (h.step hs).put hd hv
theorem nu (hT:an P T) (h:Rep E s ρ a w) (o:Oper) {Q:Exit→Act→World→Prop} {KK:Act→World→Prop} {K:ASt→Prop} (hk:rA P T s o.dst o.op K) (hd:fh s.nt o.dst)
    (hK:∀ s' ρ' a' w',K s'→Rep E s' ρ' a' w'→KK a' w'):o.wp P a w KK Q:=by
  obtain ⟨dst,op,ty,pos,after,guard⟩:=o
  simp only at hk hd hK
  unfold rA at hk
  split at hk
  · rename_i t
    obtain ⟨h1,h2⟩:=hk
    obtain ⟨u,⟨u',w',ρ',hr,hs,hv⟩,hrun⟩:=vN hT h.heap t h1
    rcases hr with hr | ⟨hr,_⟩
    · injection hr with hr1 hr2
      injection hr1 with hr1
      subst hr1;subst hr2
      unfold Oper.wp
      simp only [execOp,Sem.run_bind,hrun,Result.andThen_ok,Sem.run_pure]
      exact hK _ _ _ _ h2 (dD h hd hs hv)
    · cases hr
  · rename_i t x
    obtain ⟨h1,h2⟩:=hk
    obtain ⟨u,w',⟨u',w2,ρ',hr,hs,hv⟩,hrun⟩:=Bb (P:=P) h.heap t (au s x) _ (bC h x) h1
    rcases hr with hr | ⟨hr,_⟩
    · injection hr with hr1 hr2
      injection hr1 with hr1
      subst hr1;subst hr2
      unfold Oper.wp
      simp only [execOp,Sem.run_bind,hrun,Result.andThen_ok,Sem.run_pure]
      exact hK _ _ _ _ h2 (dD h hd hs hv)
    · cases hr
  · rename_i t len parts
    obtain ⟨h0,hb,h1,h2⟩:=hk
    obtain ⟨hst,hlen,hparts⟩:=tp h.heap h.np (ps:=parts.toList.map fun p=>(p.1,ai (au s p.2))) (vs:=parts.toList.map fun p=>(p.1,a.eval p.2)) (by simp)
      (fun j x y hx hy=>by
        rw [List.getElem?_map] at hx hy
        obtain ⟨q,hq,rfl⟩:=Option.map_eq_some_iff.1 hx
        rw [hq] at hy
        simp at hy
        subst hy
        exact ⟨rfl,ah (bC h q.2) (gL h0 (j:=j) (by rw [List.getElem?_map,hq];rfl))⟩) hb
    obtain ⟨u,w',⟨u',w2,ρ',hr,hs,hv⟩,hrun⟩:=nN (P:=P) hT hst.heap t len _ (parts.toList.map fun p=>(p.1,a.eval p.2)) hlen hparts h1
    have hs:=hst.trans hs
    rcases hr with hr | ⟨hr,_⟩
    · injection hr with hr1 hr2
      injection hr1 with hr1
      subst hr1;subst hr2
      have e:(parts.toList.map fun p=>(p.1,a.eval p.2)).toArray=parts.map fun (i,x)=>(i,a.eval x):=by
        apply Array.ext';simp
      rw [e] at hrun
      unfold Oper.wp
      simp only [execOp,Sem.run_bind,hrun,Result.andThen_ok,Sem.run_pure]
      exact hK _ _ _ _ h2 (dD h hd hs hv)
    · cases hr
  · rename_i t x y
    obtain ⟨hg1,hg2,h1,h2⟩:=hk
    obtain ⟨u,w',⟨u',w2,ρ',hr,hs,hv⟩,hrun⟩:=wB (P:=P) hT h.heap t _ _ _ _ (ah (bC h x) hg1) (ah (bC h y) hg2) h1
    rcases hr with hr | ⟨hr,_⟩
    · injection hr with hr1 hr2
      injection hr1 with hr1
      subst hr1;subst hr2
      unfold Oper.wp
      simp only [execOp,Sem.run_bind,hrun,Result.andThen_ok,Sem.run_pure]
      exact hK _ _ _ _ h2 (dD h hd hs hv)
    · cases hr
  · rename_i t x y
    obtain ⟨hg1,hg2,h1,h2⟩:=hk
    obtain ⟨w',⟨u',w2,ρ',hr,hs,hv⟩,hrun⟩:=sX (P:=P) hT h.heap t _ _ _ _ (ah (bC h x) hg1) (ah (bC h y) hg2) h1
    rcases hr with hr | ⟨hr,hu⟩
    · cases hr
    · injection hr with hr1 hr2
      subst hr2;subst hu
      unfold Oper.wp
      simp only [execOp,Sem.run_bind,hrun,Result.andThen_ok,Sem.run_pure]
      exact hK _ _ _ _ h2 (dD h hd hs (.any _))
  · rename_i src dst' x
    obtain ⟨h1,h2⟩:=hk
    obtain ⟨u,w',ρ',hu,hs,hrun⟩:=wk (P:=P) hT h.heap (bC h x) h1
    unfold Oper.wp
    simp only [execOp,Sem.run_bind,hrun,Result.andThen_ok,Sem.run_pure]
    exact hK _ _ _ _ h2 (dD h hd hs hu)
  · rename_i t
    obtain ⟨_,h2⟩:=hk
    obtain ⟨u,w',⟨u',w2,ρ',hr,hs,hv⟩,hrun⟩:=ra (P:=P) h.heap t
    rcases hr with hr | ⟨hr,_⟩
    · injection hr with hr1 hr2
      injection hr1 with hr1
      subst hr1;subst hr2
      unfold Oper.wp
      simp only [execOp,Option.map_none,Sem.run_bind,hrun,Result.andThen_ok,Sem.run_pure]
      exact hK _ _ _ _ h2 (dD h hd hs hv)
    · cases hr
  · rename_i t x k v
    obtain ⟨hg1,hg2,hg3,h1,h2⟩:=hk
    obtain ⟨w',⟨u',w2,ρ',hr,hs,hv⟩,hrun⟩:=sZ (P:=P) hT h.heap t _ _ _ _ _ _ (ah (bC h x) hg1) (ah (bC h k) hg2) (ah (bC h v) hg3) h1
    rcases hr with hr | ⟨hr,hu⟩
    · cases hr
    · injection hr with hr1 hr2
      subst hr2;subst hu
      unfold Oper.wp
      simp only [execOp,Sem.run_bind,hrun,Result.andThen_ok,Sem.run_pure]
      exact hK _ _ _ _ h2 (dD h hd hs (.any _))
  · rename_i t x k
    obtain ⟨hg1,hg2,h1,h2⟩:=hk
    obtain ⟨u,hu,hrun⟩:=rN (P:=P) hT h.heap t _ _ _ _ (ah (bC h x) hg1) (ah (bC h k) hg2) h1
    unfold Oper.wp
    simp only [execOp,Sem.run_bind,hrun,Result.andThen_ok,Sem.run_pure]
    exact hK _ _ _ _ h2 (h.put hd hu)
  · rename_i args argTypes
    split at hk
    · rename_i x y t t' hx ht
      obtain ⟨hg1,hg2,h1,h2⟩:=hk
      have ea:args=#[x,y]:=by apply Array.ext';simpa using hx
      have et:argTypes=#[t,t']:=by apply Array.ext';simpa using ht
      subst ea;subst et
      obtain ⟨u,w',⟨u',w2,ρ',hr,hs,hv⟩,hrun⟩:=sw (P:=P) hT h.heap t t' ty _ _ _ _ (ah (bC h x) hg1) (ah (bC h y) hg2) h1
      rcases hr with hr | ⟨hr,_⟩
      · injection hr with hr1 hr2
        injection hr1 with hr1
        subst hr1;subst hr2
        unfold Oper.wp
        simp only [execOp,resolve,invoke,Go.builtin,Sem.run_bind,Sem.run_pure,Result.andThen_ok,List.map_toArray,List.map_cons,List.map_nil,hrun]
        exact hK _ _ _ _ h2 (dD h hd hs hv)
      · cases hr
    · exact hk.elim
  · rename_i args argTypes
    split at hk
    · rename_i x y t t' hx ht
      obtain ⟨hg1,hg2,hns,h1,h2⟩:=hk
      have ea:args=#[x,y]:=by apply Array.ext';simpa using hx
      have et:argTypes=#[t,t']:=by apply Array.ext';simpa using ht
      subst ea;subst et
      obtain ⟨u,w',⟨u',w2,ρ',hr,hs,hv⟩,hrun⟩:=xz (P:=P) hT h.heap t t' ty _ _ _ _ (ah (bC h x) hg1) (ah (bC h y) hg2) (fun l e=>by rw [e] at hns;simp at hns) h1
      rcases hr with hr | ⟨hr,_⟩
      · injection hr with hr1 hr2
        injection hr1 with hr1
        subst hr1;subst hr2
        unfold Oper.wp
        simp only [execOp,resolve,invoke,Go.builtin,Sem.run_bind,Sem.run_pure,Result.andThen_ok,List.map_toArray,List.map_cons,List.map_nil,hrun]
        exact hK _ _ _ _ h2 (dD h hd hs hv)
      · cases hr
    · exact hk.elim
  · rename_i args argTypes
    split at hk
    · rename_i x t hx ht
      obtain ⟨hg1,h1,h2⟩:=hk
      have ea:args=#[x]:=by apply Array.ext';simpa using hx
      have et:argTypes=#[t]:=by apply Array.ext';simpa using ht
      subst ea;subst et
      obtain ⟨u,w',⟨u',w2,ρ',hr,hs,hv⟩,hrun⟩:=vv (P:=P) hT h.heap t ty _ _ (ah (bC h x) hg1) h1
      rcases hr with hr | ⟨hr,_⟩
      · injection hr with hr1 hr2
        injection hr1 with hr1
        subst hr1;subst hr2
        unfold Oper.wp
        simp only [execOp,resolve,invoke,Go.builtin,Sem.run_bind,Sem.run_pure,Result.andThen_ok,List.map_toArray,List.map_cons,List.map_nil,hrun]
        exact hK _ _ _ _ h2 (dD h hd hs hv)
      · cases hr
    · exact hk.elim
  · rename_i f args ats
    split at hk
    · rename_i g first caps hc
      obtain ⟨hg,hgs,hcall⟩:=hk
      obtain ⟨us,vs,hf,hus,hvs⟩:=uV h hg hc
      have hargs:=gD (gD hus (Cb h hgs)) hvs
      rcases hcall with ⟨hgo,hcall⟩ | ⟨v,hext,hKv⟩
      · have:=hcall E ρ w _ h.np h.heap hargs
        unfold Oper.wp
        rw [pF hf hgo,iv]
        refine this.mono fun e w' hh=>?_
        obtain ⟨u,v,hp',ρ',rfl,hKv,hs,hv⟩:=hh
        exact hK _ _ _ _ hKv (dD h hd hs hv)
      · obtain ⟨u,hu,hrun⟩:=hext E ρ w _ h.heap hargs
        unfold Oper.wp
        rw [nK hf,iv,hrun w (gZ w)]
        exact hK _ _ _ _ hKv (h.put hd hu)
    · exact hk.elim
  · exact hk.elim
theorem uA (hT:an P T) {ok:Nat→Prop} {t:TypeId} {v:AV} {u:Value} {n:Nat} (hv:RepV ρ ok w v u) (h:qP (T t) v=some n) :
    ∃ A l c,u=.slice A l c∧(0 < n→A.isNone=false)∧∃ e,P.underlying t=some (.slice e):=by
  unfold qP at h
  split at h
  · rename_i e sz rows hk
    injection h with h
    subst h
    cases hv with | d _ _ hv=>cases hv with | sl _ _ A cap u hcap hsz hc hr=>
    refine ⟨A,_,_,rfl,fun hp=>?_,e,aw hT hk⟩
    obtain ⟨b,o,rfl,_⟩:=hc hp
    rfl
  · rename_i e k sz off n' hk
    injection h with h
    subst h
    cases hv with
    | osl _ _ _ _ b m cap _ _ _=>exact ⟨_,_,_,rfl,fun _=>rfl,e,aw hT hk⟩
    | oslnil _ _ A _=>exact ⟨_,_,_,rfl,fun hp=>by omega,e,aw hT hk⟩
  · rename_i e hk
    injection h with h
    subst h
    cases hv with | d _ _ hv=>
    obtain ⟨A,rfl⟩:=gW hv
    exact ⟨_,_,_,rfl,fun hp=>by omega,e,aw hT hk⟩
  · cases h
theorem sy (w':World) {t e:TypeId} (ht:P.underlying t=some (.slice e)) (A:Option Addr) (l c:Nat) :
    (Go.binOp .eql t (.slice A l c) (.slice none 0 0)).run P w'=.ok (.bool A.isNone) w'∧(Go.binOp .neq t (.slice A l c) (.slice none 0 0)).run P w'=.ok (.bool !A.isNone) w':=by
  have h:∀ d:Nat,(Op.equalIn (d+1) t (.slice A l c) (.slice none 0 0)).run P w'=.ok A.isNone w':=fun d=>by
    cases A<;>simp [Op.equalIn,run_underlying ht]
  have h2:(Op.equal t (.slice A l c) (.slice none 0 0)).run P w'=.ok A.isNone w':=h 9999
  exact ⟨by simp [Go.binOp,h2],by simp [Go.binOp,h2]⟩
theorem pn (hT:an P T) (h:Rep E s ρ a w) {o:Oper} {neg:Bool} {n:Nat} (hc:qA T (au s) o.op=some (neg,n)) :
    ∃ b:Bool,(0 < n→b=false)∧∀ w',(execOp a.eval o).run P w'=.ok (.value (.bool (b != neg))) w':=by
  obtain ⟨dst,op,ty,pos,after,guard⟩:=o
  simp only at hc
  unfold qA at hc
  split at hc
  · rename_i t x tt
    obtain ⟨n',hn,he⟩:=Option.map_eq_some_iff.1 hc
    injection he with he1 he2
    subst he1;subst he2
    obtain ⟨A,l,c,hu,hA,e,ht⟩:=uA hT (bC h x) hn
    exact ⟨A.isNone,hA,fun w'=>by
      have hc2:a.eval (.const (.slice none 0 0))=.slice none 0 0:=rfl
      simp [execOp,hu,hc2,eqGuard,(sy (P:=P) w' ht A l c).1]⟩
  · rename_i t x tt
    obtain ⟨n',hn,he⟩:=Option.map_eq_some_iff.1 hc
    injection he with he1 he2
    subst he1;subst he2
    obtain ⟨A,l,c,hu,hA,e,ht⟩:=uA hT (bC h x) hn
    exact ⟨A.isNone,hA,fun w'=>by
      have hc2:a.eval (.const (.slice none 0 0))=.slice none 0 0:=rfl
      simp [execOp,hu,hc2,eqGuard,(sy (P:=P) w' ht A l c).2]⟩
  · cases hc
theorem vC (hT:an P T) (h:Rep E s ρ a w) {ops:Array Oper} (o:Oper) {Q:Exit→Act→World→Prop} {KK:Act→World→Prop} {K:ASt→Prop} (hk:vj P T ops s o K)
    (hK:∀ s' ρ' a' w',K s'→Rep E s' ρ' a' w'→KK a' w') :
    if Region.wanted o (yielded ops a.tmps) then o.wp P a w KK Q∨(o.asks P a w∧LetsOut Q) else KK (a.put o.dst undef) w:=by
  unfold vj at hk
  split at hk
  · rename_i hg
    rw [if_pos (by simp [Region.wanted,hg])]
    left
    split at hk
    · obtain ⟨h1,h2,h3⟩:=hk
      obtain ⟨u,hu,hrun⟩:=m9 hT h o h1
      unfold Oper.wp
      rw [hrun w (gZ w)]
      exact hK _ _ _ _ h3 (h.put h2 hu)
    · obtain ⟨h1,h2⟩:=hk
      exact nu hT h o h2 h1 hK
  · rename_i j want hg
    split at hk
    · exact hk.elim
    · rename_i g ha
      have hw:=ek h hg ha
      split at hk
      · obtain ⟨h1,h2,h3⟩:=hk
        cases hgb:g with
        | true=>
          rw [if_pos (by rw [hw,hgb])]
          left
          obtain ⟨u,hu,hrun⟩:=m9 hT h o (h1 hgb)
          unfold Oper.wp
          rw [hrun w (gZ w)]
          exact hK _ _ _ _ h3 (h.put h2 (.gd _ _ _ (fun _=>hu) (fun e=>by rw [hgb] at e;cases e)))
        | false=>
          rw [if_neg (by rw [hw,hgb];simp)]
          exact hK _ _ _ _ h3 (h.put h2 (.gd _ _ _ (fun e=>by rw [hgb] at e;cases e) (fun _=>rfl)))
      · obtain ⟨h1,h2,h3⟩:=hk
        cases hgb:g with
        | true=>
          rw [if_pos (by rw [hw,hgb])]
          left
          exact nu hT h o (h2 hgb) h1 hK
        | false=>
          rw [if_neg (by rw [hw,hgb];simp)]
          exact hK _ _ _ _ (h3 hgb) (h.put h1 (.gd _ _ _ (fun e=>by cases e) (fun _=>rfl)))
theorem iC (hT:an P T) (h:Rep E s ρ a w) {ops:Array Oper} (o:Oper) {Q:Exit→Act→World→Prop} {KK:Act→World→Prop} {K:ASt→Prop} (hk:kX P T ops s o K)
    (hK:∀ s' ρ' a' w',K s'→Rep E s' ρ' a' w'→KK a' w') :
    if Region.wanted o (yielded ops a.tmps) then o.wp P a w KK Q∨(o.asks P a w∧LetsOut Q) else KK (a.put o.dst undef) w:=by
  unfold kX at hk
  split at hk
  · rename_i neg n hc
    obtain ⟨b,hb,hrun⟩:=pn hT h hc
    unfold lv at hk
    split at hk
    · rename_i hg
      rw [if_pos (by simp [Region.wanted,hg])]
      left
      unfold Oper.wp
      rw [hrun w]
      exact hK _ _ _ _ (hk.2 b hb) (h.put hk.1 (.d _ _ (.bool _)))
    · rename_i j want hg
      split at hk
      · exact hk.elim
      · rename_i g ha
        have hw:=ek h hg ha
        cases hgb:g with
        | true=>
          rw [if_pos (by rw [hw,hgb])]
          left
          unfold Oper.wp
          rw [hrun w]
          exact hK _ _ _ _ (hk.2 b hb) (h.put hk.1 (.gd _ _ _ (fun _=>.d _ _ (.bool _)) (fun e=>by rw [hgb] at e;cases e)))
        | false=>
          rw [if_neg (by rw [hw,hgb];simp)]
          exact hK _ _ _ _ (hk.2 b hb) (h.put hk.1 (.gd _ _ _ (fun e=>by rw [hgb] at e;cases e) (fun _=>rfl)))
  · exact vC hT h o hk hK
theorem sm (hT:an P T) {ops:Array Oper} {Q:Exit→Act→World→Prop} {K:ASt→Prop} (hK:∀ s' ρ' a' w',K s'→Rep E s' ρ' a' w'→Q .normal a' w') :
    ∀ (l:List Oper) (s:ASt) (ρ:List (Option (Nat×Nat))) (a:Act) (w:World),AG P T ops K l s→Rep E s ρ a w→wpList P ops Q l a w
  | [],s,ρ,a,w,hk,h=>hK _ _ _ _ hk h
  | o::r,s,ρ,a,w,hk,h=>iC hT h o hk fun s' ρ' a' w' hs hr=>sm hT hK r s' ρ' a' w' hs hr
def rL (P:Program) (o:Oper) (a:Act) (w:World) (KK:Act→Prop):Prop:=∃ v,(∀ w',Below w.heap.size w w'→o.quietAt P a (fun w''=>Below w'.heap.size w' w'') w' v)∧KK (a.put o.dst v)
theorem lh {C C':World→Prop} {w:World} {v:Value} {r:Result Next} (hC:∀ w,C w→C' w) (h:Oper.quietUpon P C w v r):Oper.quietUpon P C' w v r:=by
  match r with
  | .ok (.value u) w'=>exact h
  | .ok .skip w'=>exact h
  | .ok (.enter f args) w'=>exact ⟨h.1,h.2.mono fun e w'' ⟨h1,h2⟩=>⟨h1,hC _ h2⟩⟩
  | .ok (.defer _) _=>exact h
  | .ok (.row _ _) _=>exact h
  | .halt _ _=>exact h
theorem sP (hT:an P T) (h:Rep E s ρ a w) {ops:Array Oper} (o:Oper) {KK:Act→Prop} {K:ASt→Prop} (hk:nl P T ops s o K)
    (hK:∀ s' a',K s'→Rep E s' ρ a' w→KK a') :
    if Region.wanted o (yielded ops a.tmps) then rL P o a w KK else KK (a.put o.dst undef):=by
  have hpure:∀ (dstv:AV→AV),(fc T s.hp (au s) o.op).ok→fh s.nt o.dst→(∀ u,RepV ρ (okB E ρ s.hp w) w (fc T s.hp (au s) o.op).v u→RepV ρ (okB E ρ s.hp w) w (dstv (fc T s.hp (au s) o.op).v) u)→
      K { s with env:=eG s.env o.dst (dstv (fc T s.hp (au s) o.op).v) }→rL P o a w KK:=by
    intro dstv h1 h2 h3 h4
    obtain ⟨u,hu,hrun⟩:=m9 hT h o h1
    exact ⟨u,fun w' hb=>by unfold Oper.quietAt;rw [hrun w' hb];exact ⟨rfl,rfl⟩,hK _ _ h4 (h.put h2 (h3 u hu))⟩
  have hcall:∀ (f:Operand) (args:Array Operand) (ats:Array TypeId) (g:FuncId) (first caps:List AV) (v:AV),o.op=.call { callee:=.value f,args,argTypes:=ats }→jN (ai (au s f))=some (g,first,caps)→
      cI (au s f)→iu (args.toList.map (au s))→fh s.nt o.dst→(vf P s.hp g (first++args.toList.map (fun x=>ai (au s x))++caps) v∨u6 P s.hp g (first++args.toList.map (fun x=>ai (au s x))++caps) v)→K { s with env:=eG s.env o.dst v }→rL P o a w KK:=by
    intro f args ats g first caps v ho hc hg hgs hd hq hv
    obtain ⟨us,vs,hf,hus,hvs⟩:=uV h hg hc
    have hargs:=gD (gD hus (Cb h hgs)) hvs
    rcases hq with hq | hq
    rotate_left
    · obtain ⟨u,hu,hrun⟩:=hq E ρ w _ h.heap hargs
      refine ⟨u,fun w' hb=>?_,hK _ _ hv (h.put hd hu)⟩
      obtain ⟨dst,op,ty,pos,after,guard⟩:=o
      simp only at ho
      subst ho
      unfold Oper.quietAt
      rw [nK hf,iv,hrun w' hb]
      exact ⟨rfl,rfl⟩
    obtain ⟨u,hu,hrun⟩:=hq.2 E ρ w _ h.heap hargs
    refine ⟨u,fun w' hb=>?_,hK _ _ hv (h.put hd hu)⟩
    obtain ⟨dst,op,ty,pos,after,guard⟩:=o
    simp only at ho
    subst ho
    unfold Oper.quietAt
    rw [pF hf hq.1,iv]
    exact ⟨rfl,hrun w' hb⟩
  have hconv:∀ (src dst:TypeId) (x:Operand) (dstv:AV→AV),o.op=.convert src dst x→(fp T s.hp src dst (au s x)).ok→fh s.nt o.dst→
      (∀ u,RepV ρ (okB E ρ s.hp w) w (fp T s.hp src dst (au s x)).v u→RepV ρ (okB E ρ s.hp w) w (dstv (fp T s.hp src dst (au s x)).v) u)→
      K { s with env:=eG s.env o.dst (dstv (fp T s.hp src dst (au s x)).v) }→rL P o a w KK:=by
    intro src dst x dstv ho h1 h2 h3 h4
    obtain ⟨u,hu,hrun⟩:=ol (P:=P) hT h.heap.blks (fun b hb=>hb.2.1) (bC h x) h1
    refine ⟨u,fun w' hb=>?_,hK _ _ h4 (h.put h2 (h3 u hu))⟩
    obtain ⟨dst',op,ty,pos,after,guard⟩:=o
    simp only at ho
    subst ho
    unfold Oper.quietAt
    simp only [execOp,Sem.run_bind,hrun w' hb,Result.andThen_ok,Sem.run_pure]
    exact ⟨rfl,rfl⟩
  unfold nl at hk
  split at hk
  · rename_i hg
    rw [if_pos (by simp [Region.wanted,hg])]
    split at hk
    · obtain ⟨h1,h2,h3⟩:=hk
      exact hpure id h1 h2 (fun _ hu=>hu) h3
    · split at hk
      · rename_i src dst x ho
        obtain ⟨h1,h2,h3⟩:=hk
        exact hconv src dst x id ho h1 h2 (fun _ hu=>hu) h3
      · rename_i f args ats ho
        split at hk
        · rename_i g first caps hc
          obtain ⟨h1,h2,h3,v,h4,h5⟩:=hk
          exact hcall f args ats g first caps v ho hc h1 h2 h3 h4 h5
        · exact hk.elim
      · exact hk.elim
  · rename_i j want hg
    split at hk
    · exact hk.elim
    · rename_i g ha
      have hw:=ek h hg ha
      split at hk
      · obtain ⟨h1,h2,h3⟩:=hk
        cases hgb:g with
        | true=>
          rw [if_pos (by rw [hw,hgb])]
          exact hpure (.gd g) (h1 hgb) h2 (fun u hu=>.gd _ _ _ (fun _=>hu) (fun e=>by rw [hgb] at e;cases e)) h3
        | false=>
          rw [if_neg (by rw [hw,hgb];simp)]
          exact hK _ _ h3 (h.put h2 (.gd _ _ _ (fun e=>by rw [hgb] at e;cases e) (fun _=>rfl)))
      · split at hk
        · rename_i f args ats ho
          split at hk
          · rename_i g' first caps hc
            obtain ⟨h3,h6,h7⟩:=hk
            cases hgb:g with
            | true=>
              rw [if_pos (by rw [hw,hgb])]
              obtain ⟨h1,h2,v,h4,h5⟩:=h6 hgb
              exact hcall f args ats g' first caps v ho hc h1 h2 h3 h4 h5
            | false=>
              rw [if_neg (by rw [hw,hgb];simp)]
              exact hK _ _ (h7 hgb) (h.put h3 (.gd _ _ _ (fun e=>by cases e) (fun _=>rfl)))
          · exact hk.elim
        · rename_i src dst x ho
          obtain ⟨h1,h2,h3⟩:=hk
          cases hgb:g with
          | true=>
            rw [if_pos (by rw [hw,hgb])]
            exact hconv src dst x (.gd g) ho (h1 hgb) h2 (fun u hu=>.gd _ _ _ (fun _=>hu) (fun e=>by rw [hgb] at e;cases e)) h3
          | false=>
            rw [if_neg (by rw [hw,hgb];simp)]
            exact hK _ _ h3 (h.put h2 (.gd _ _ _ (fun e=>by rw [hgb] at e;cases e) (fun _=>rfl)))
        · exact hk.elim
theorem mo (hT:an P T) (h:Rep E s ρ a w) {ops:Array Oper} (o:Oper) {KK:Act→Prop} {K:ASt→Prop} (hk:fm P T ops s o K)
    (hK:∀ s' a',K s'→Rep E s' ρ a' w→KK a') :
    if Region.wanted o (yielded ops a.tmps) then rL P o a w KK else KK (a.put o.dst undef):=by
  unfold fm at hk
  split at hk
  · rename_i neg n hc
    obtain ⟨b,hb,hrun⟩:=pn hT h hc
    unfold lv at hk
    split at hk
    · rename_i hg
      rw [if_pos (by simp [Region.wanted,hg])]
      exact ⟨_,fun w' hbw=>by unfold Oper.quietAt;rw [hrun w'];exact ⟨rfl,rfl⟩,hK _ _ (hk.2 b hb) (h.put hk.1 (.d _ _ (.bool _)))⟩
    · rename_i j want hg
      split at hk
      · exact hk.elim
      · rename_i g ha
        have hw:=ek h hg ha
        cases hgb:g with
        | true=>
          rw [if_pos (by rw [hw,hgb])]
          exact ⟨_,fun w' hbw=>by unfold Oper.quietAt;rw [hrun w'];exact ⟨rfl,rfl⟩,hK _ _ (hk.2 b hb) (h.put hk.1 (.gd _ _ _ (fun _=>.d _ _ (.bool _)) (fun e=>by rw [hgb] at e;cases e)))⟩
        | false=>
          rw [if_neg (by rw [hw,hgb];simp)]
          exact hK _ _ (hk.2 b hb) (h.put hk.1 (.gd _ _ _ (fun e=>by rw [hgb] at e;cases e) (fun _=>rfl)))
  · exact sP hT h o hk hK
theorem gA (hT:an P T) (h:Rep E s ρ a w) {ops:Array Oper} (o:Oper) {KK:Act→Prop} {K:ASt→Prop} (hk:fm P T ops s o K)
    (hK:∀ s' a',K s'→Rep E s' ρ a' w→KK a') :
    if Region.wanted o (yielded ops a.tmps) then o.quiet P a (fun w'=>Below w.heap.size w w') KK else KK (a.put o.dst undef):=by
  have:=mo hT h o hk hK
  split at this
  · rename_i hw
    rw [if_pos hw]
    obtain ⟨v,h1,h2⟩:=this
    exact ⟨v,fun w' hb=>lh (fun w'' h2=>⟨h2.os.trans hb.os,h2.tape.trans hb.tape,h2.output.trans hb.output,Nat.le_trans hb.size h2.size,fun k hk=>(h2.block k (Nat.lt_of_lt_of_le hk hb.size)).trans (hb.block k hk)⟩) (h1 w' hb),h2⟩
  · rename_i hw
    rw [if_neg hw];exact this
theorem pK (hT:an P T) {ops:Array Oper} {K:ASt→Prop} {KK:Act→Prop} (hK:∀ s' a',K s'→Rep E s' ρ a' w→KK a') :
    ∀ (l:List Oper) (s:ASt) (a:Act),nV P T ops K l s→Rep E s ρ a w→wpQuiet P ops (fun w'=>Below w.heap.size w w') KK l a
  | [],s,a,hk,h=>hK _ _ hk h
  | o::r,s,a,hk,h=>gA hT h o hk fun s' a' hs hr=>pK hT hK r s' a' hs hr
theorem wpm {P:Program} {c:Code} {a:Act} {w:World} {Q Q':Exit→Act→World→Prop} (h:c.wp P Q a w) (hq:∀ e a w,Q e a w→Q' e a w):c.wp P Q' a w:=
  fun b k cs=>let ⟨e,a',w',q,arr⟩:=h b k cs;⟨e,a',w',hq _ _ _ q,arr⟩
def aF (s s':ASt):Prop:=∀ (E:Ent) (ρ:List (Option (Nat×Nat))) (a:Act) (w:World),Rep E s ρ a w→∃ ρ',Rep E s' ρ' a w
theorem aF.refl (s:ASt):aF s s:=fun _ ρ _ _ h=>⟨ρ,h⟩
theorem aF.trans {s s' s2:ASt} (h:aF s s') (h2:aF s' s2):aF s s2:=fun E ρ a w hr=>by
  obtain ⟨ρ',hr'⟩:=h E ρ a w hr
  exact h2 E ρ' a w hr'
theorem AWP.weaken {c:Code} {s s':ASt} {Q:Exit→ASt→Prop} (hs:aF s s') (h:AWP P c s' Q):AWP P c s Q:=fun E ρ a w hr=>by
  obtain ⟨ρ',hr'⟩:=hs E ρ a w hr
  exact h E ρ' a w hr'
theorem AWP.mono {c:Code} {s:ASt} {Q Q':Exit→ASt→Prop} (h:AWP P c s Q) (hq:∀ e s',Q e s'→Q' e s'):AWP P c s Q':=fun E ρ a w hr=>
  wpm (h E ρ a w hr) fun e _ _ ⟨s',ρ',h1,h2⟩=>⟨s',ρ',h1,hq e s' h2⟩
def gf (N:ASt→Prop) (Q:Exit→ASt→Prop):Exit→ASt→Prop
  | .normal,s=>N s
  | e,s=>Q e s
theorem AWP.seq {x y:Code} {s:ASt} {Q:Exit→ASt→Prop} (h:AWP P x s (gf (fun s'=>AWP P y s' Q) Q)):AWP P (.seq x y) s Q:=fun E ρ a w hr=>by
  refine wp_seq (wpm (h E ρ a w hr) fun e a' w' hh=>?_)
  obtain ⟨s',ρ',hr',hq⟩:=hh
  cases e with
  | normal=>exact hq E ρ' a' w' hr'
  | _=>exact ⟨s',ρ',hr',hq⟩
theorem AWP.loop {ι:Type} {c:Code} {s:ASt} {Q:Exit→ASt→Prop} (μ:ι→Nat) (st:ι→ASt) (h0:∃ i,aF s (st i))
    (round:∀ i,AWP P c (st i) (gf (fun s'=>∃ j,μ j < μ i∧aF s' (st j)) Q)):AWP P (.loop c) s Q:=fun E ρ a w hr=>by
  have key:∀ (n:Nat) (a:Act) (w:World),(∃ i ρ,μ i < n∧Rep E (st i) ρ a w)→Code.rounds P c (fun e a' w'=>∃ s' ρ',Rep E s' ρ' a' w'∧Q e s') n a w:=by
    intro n
    induction n with
    | zero=>intro a w ⟨i,_,hk,_⟩;omega
    | succ n ih=>
      intro a w ⟨i,ρ,hk,hr⟩
      rw [rounds_succ]
      refine wpm (round i E ρ a w hr) fun e a' w' hh=>?_
      obtain ⟨s',ρ',hr',hq⟩:=hh
      cases e with
      | normal=>
        obtain ⟨j,hj,hs⟩:=hq
        obtain ⟨ρ2,hr2⟩:=hs E ρ' a' w' hr'
        exact ih a' w' ⟨j,ρ2,by omega,hr2⟩
      | _=>exact ⟨s',ρ',hr',hq⟩
  obtain ⟨i,hi⟩:=h0
  obtain ⟨ρ',hr'⟩:=hi E ρ a w hr
  exact wp_loop_rounds (μ i+1) (key (μ i+1) a w ⟨i,ρ',by omega,hr'⟩)
end
abbrev Bel (w w':World):Prop:=Below w.heap.size w w'
theorem x8 (w:World):Bel w w:=⟨rfl,rfl,rfl,Nat.le_refl _,fun _ _=>rfl⟩
theorem oB {w w1 w2:World} (h:Bel w w1) (h2:Bel w1 w2):Bel w w2:=
  ⟨h2.os.trans h.os,h2.tape.trans h.tape,h2.output.trans h.output,Nat.le_trans h.size h2.size,fun k hk=>(h2.block k (Nat.lt_of_lt_of_le hk h.size)).trans (h.block k hk)⟩
theorem iR {listed:Array Bool} {i:Nat} (h:listed.getD i true=false):listed.getD i false=false:=by
  rcases Nat.lt_or_ge i listed.size with h' | h'
  · simp [h'] at h ⊢;exact h
  · simp [Array.getElem?_eq_none h'] at h
section
variable {P:Program} {ops:Array Oper} {md:Region.Mode} {Q:Exit→Act→World→Prop} {eff:Nat→Bool}
def dL (P:Program) (md:Region.Mode) (ops:Array Oper) (Q:Exit→Act→World→Prop) (eff:Nat→Bool):Nat→Array Bool→Act→World→Prop
  | 0,listed,a,w=>Region.ready md ops listed=[]∧∀ w',Bel w w'→Q .normal a w'
  | f + 1,listed,a,w=>(Region.ready md ops listed=[]→∀ w',Bel w w'→Q .normal a w')∧∀ i∈Region.ready md ops listed,
      if eff i=true then (∀ w',Bel w w'→wpOp P ops Q i (fun a' w2=>dL P md ops Q eff f (listed.setIfInBounds i true) a' w2) a w')
      else qOp P ops (Bel w) i (fun a'=>dL P md ops Q eff f (listed.setIfInBounds i true) a' w) a
theorem hZ:∀ (f:Nat) (listed:Array Bool) (a:Act) (w w':World),dL P md ops Q eff f listed a w→Bel w w'→wpAny P md ops Q f listed a w'
  | 0,_,_,_,w',h,hb=>⟨h.1,h.2 w' hb⟩
  | f + 1,listed,a,w,w',h,hb=>by
    refine ⟨fun h0=>h.1 h0 w' hb,fun i hi=>?_⟩
    have:=h.2 i hi
    by_cases he:eff i=true
    · rw [if_pos he] at this
      exact wpOp_mono (fun a' w2 h'=>hZ f _ a' w2 w2 h' (x8 _)) (this w' hb)
    · rw [if_neg he] at this
      exact wpOp_of_qOp (C:=Bel w) hb (fun a' w2 hw2 h'=>hZ f _ a' w w2 h' hw2) this
def unl (listed:Array Bool) (j:Nat):Bool:=!listed.getD j true
def xm (md:Region.Mode) (ops:Array Oper) (eff W:Nat→Bool) (listed:Array Bool) (i:Nat):Bool:=
  (List.range ops.size).all fun j=>(!(eff j&&unl listed j) || W j) &&
    (!W j || (match ops[j]? with | some oj=>oj.after.any fun e=>Region.binds md e&&(e.on == i || (W e.on&&unl listed e.on)) | none=>false))
theorem ov {i:Nat} {oi:Oper} {v:Value} {W:Nat→Bool} {w:World} (hi:ops[i]?=some oi) (hsel:∀ (j:Nat) (o:Oper) cs b,ops[j]?=some o→o.op≠.select cs b) (hne:eff i=false) :
    ∀ (f:Nat) (listed:Array Bool) (a:Act),
      (∀ j oj,ops[j]?=some oj→j≠i→listed.getD j true=false→(∀ e∈oj.after,Region.binds md e=true→e.on≠i)→oi.apart ops oj=true)→
      (∀ j oj,ops[j]?=some oj→eff j=true→listed.getD j true=false→W j=true)→
      (∀ j oj,ops[j]?=some oj→W j=true→∃ e∈oj.after,Region.binds md e=true∧(e.on=i∨(W e.on=true∧listed.getD e.on true=false)))→
      i∈Region.ready md ops listed→YieldsIn P ops (Bel w) oi v a→
      dL P md ops Q eff f (listed.setIfInBounds i true) (a.put oi.dst v) w→dL P md ops Q eff (f+1) listed a w:=by
  have key:∀ (listed:Array Bool),(∀ j oj,ops[j]?=some oj→W j=true→∃ e∈oj.after,Region.binds md e=true∧(e.on=i∨(W e.on=true∧listed.getD e.on true=false)))→
      i∈Region.ready md ops listed→∀ j,j∈Region.ready md ops listed→W j=false:=by
    intro listed hW hr j hj
    cases hwj:W j with
    | false=>rfl
    | true=>
      obtain ⟨_,oj,hoj,hall⟩:=mem_ready.1 hj
      obtain ⟨e,he,hb,h⟩:=hW j oj hoj hwj
      have h1:=hall e he hb
      have h0:listed.getD e.on true=false:=by
        rcases h with h | h
        · rw [h];exact (mem_ready.1 hr).1
        · exact h.2
      rw [iR h0] at h1
      cases h1
  intro f
  induction f with
  | zero=>
    intro listed a _ hE hW hr hy H
    refine ⟨fun h=>(by rw [h] at hr;cases hr),fun j hj=>?_⟩
    by_cases hji:j=i
    · subst hji;rw [if_neg (by simp [hne])];exact hy.qOp hi H
    · have:=ready_mono hj hji
      rw [H.1] at this
      cases this
  | succ f ih=>
    intro listed a hfree hE hW hr hy H
    refine ⟨fun h=>(by rw [h] at hr;cases hr),fun j hj=>?_⟩
    by_cases hji:j=i
    · subst hji;rw [if_neg (by simp [hne])];exact hy.qOp hi H
    · have hwj:=key listed hW hr j hj
      obtain ⟨hjun,oj,hoj,hall⟩:=mem_ready.1 hj
      have hej:eff j=false:=by
        cases he:eff j with
        | false=>rfl
        | true=>rw [hE j oj hoj he hjun] at hwj;cases hwj
      have h1:=H.2 j (ready_mono hj hji)
      rw [if_neg (by simp [hej])] at h1 ⊢
      have hnot:∀ e∈oj.after,Region.binds md e=true→e.on≠i:=fun e he hb heq=>by
        have h1:=hall e he hb
        have h0:=(mem_ready.1 hr).1
        rw [heq,iR h0] at h1
        cases h1
      have h2:=qOp_put hoj (hfree j oj hoj hji hjun hnot) (fun cs b=>hsel i oi cs b hi) (fun cs b=>hsel j oj cs b hoj) hy h1
      have hun:∀ k,k≠j→(listed.setIfInBounds j true).getD k true=listed.getD k true:=fun k hk=>getD_set_ne true (fun h=>hk h.symm)
      have hfree':∀ k ok,ops[k]?=some ok→k≠i→(listed.setIfInBounds j true).getD k true=false→
          (∀ e∈ok.after,Region.binds md e=true→e.on≠i)→oi.apart ops ok=true:=fun k ok hk hki hu hno=>by
        refine hfree k ok hk hki ?_ hno
        by_cases hjk:k=j
        · subst hjk;exact hjun
        · rw [hun k hjk] at hu;exact hu
      have hE':∀ k ok,ops[k]?=some ok→eff k=true→(listed.setIfInBounds j true).getD k true=false→W k=true:=fun k ok hk he hu=>by
        by_cases hjk:k=j
        · subst hjk;rw [hej] at he;cases he
        · exact hE k ok hk he (by rw [←hun k hjk];exact hu)
      have hW':∀ k ok,ops[k]?=some ok→W k=true→∃ e∈ok.after,Region.binds md e=true∧(e.on=i∨(W e.on=true∧(listed.setIfInBounds j true).getD e.on true=false)):=fun k ok hk hw=>by
        obtain ⟨e,he,hb,h⟩:=hW k ok hk hw
        refine ⟨e,he,hb,?_⟩
        rcases h with h | ⟨h,h'⟩
        · exact .inl h
        · refine .inr ⟨h,?_⟩
          rw [hun e.on (fun e'=>by rw [e',hwj] at h;cases h)]
          exact h'
      refine qOp_mono (fun a' h3=>ih (listed.setIfInBounds j true) a' hfree' hE' hW' (ready_mono hr (Ne.symm hji)) h3.1 ?_) h2
      rw [Array.setIfInBounds_comm _ _ hji]
      exact h3.2
theorem Br {C:World→Prop} {o:Oper} {v:Value} {a:Act} (h:Yields P ops o v a):YieldsIn P ops C o v a:=by
  rcases h with ⟨h1,h2⟩ | h
  · exact .inl ⟨h1,fun w hw=>by unfold Oper.quietAt;rw [h2 w];exact ⟨rfl,rfl⟩⟩
  · exact .inr h
theorem HM {C:World→Prop} {j:Nat} {oi oj:Oper} {v:Value} (hj:ops[j]?=some oj) (hap:oi.apart ops oj=true)
    (hsi:∀ cs b,oi.op≠.select cs b) (hsj:∀ cs b,oj.op≠.select cs b) {K:Act→Prop} {a:Act}
    (hy:Yields P ops oi v a) (h:qOp P ops C j K (a.put oi.dst v)) :
    qOp P ops C j (fun a'=>Yields P ops oi v a'∧K (a'.put oi.dst v)) a:=by
  obtain ⟨h1,h2,h3⟩:=Oper.apart_spec hap
  have keep:∀ (a:Act),Yields P ops oi v a→∀ u,Yields P ops oi v (a.put oj.dst u):=fun a hy u=>
    hy.of_same (execOp_put oi hsi a oj.dst u h3) (wanted_put oi a oj.dst u h3)
  unfold qOp at *
  simp only [hj] at *
  rw [wanted_put oj a oi.dst v h1] at h
  split
  · rename_i hw
    simp only [hw,if_true] at h
    obtain ⟨u,hu,hn⟩:=h
    refine ⟨u,fun w hw'=>?_,keep a hy u,by rw [←Act.put_comm a v u h2];exact hn⟩
    have:=hu w hw'
    unfold Oper.quietAt at *
    rwa [execOp_put oj hsj a oi.dst v h1] at this
  · rename_i hw
    simp only [hw] at h
    exact ⟨keep a hy _,by rw [←Act.put_comm a v undef h2];exact h⟩
theorem p7 {i:Nat} {oi:Oper} {v:Value} (hi:ops[i]?=some oi) (hsel:∀ (j:Nat) (o:Oper) cs b,ops[j]?=some o→o.op≠.select cs b) (hne:eff i=false) (hQ:∀ c a w,¬ Q (.panic c) a w) :
    ∀ (f:Nat) (listed:Array Bool) (a:Act) (w:World),
      (∀ j oj,ops[j]?=some oj→j≠i→listed.getD j true=false→(∀ e∈oj.after,Region.binds md e=true→e.on≠i)→oi.apart ops oj=true)→
      i∈Region.ready md ops listed→Yields P ops oi v a→
      dL P md ops Q eff f (listed.setIfInBounds i true) (a.put oi.dst v) w→dL P md ops Q eff (f+1) listed a w:=by
  intro f
  induction f with
  | zero=>
    intro listed a w _ hr hy H
    refine ⟨fun h=>(by rw [h] at hr;cases hr),fun j hj=>?_⟩
    by_cases hji:j=i
    · subst hji;rw [if_neg (by simp [hne])];exact (Br hy).qOp hi H
    · have:=ready_mono hj hji
      rw [H.1] at this
      cases this
  | succ f ih=>
    intro listed a w hfree hr hy H
    refine ⟨fun h=>(by rw [h] at hr;cases hr),fun j hj=>?_⟩
    by_cases hji:j=i
    · subst hji;rw [if_neg (by simp [hne])];exact (Br hy).qOp hi H
    · have h1:=H.2 j (ready_mono hj hji)
      obtain ⟨hjun,oj,hoj,hall⟩:=mem_ready.1 hj
      have hnot:∀ e∈oj.after,Region.binds md e=true→e.on≠i:=fun e he hb heq=>by
        have h1:=hall e he hb
        have h0:=(mem_ready.1 hr).1
        rw [heq,iR h0] at h1
        cases h1
      have hfree':∀ k ok,ops[k]?=some ok→k≠i→(listed.setIfInBounds j true).getD k true=false→
          (∀ e∈ok.after,Region.binds md e=true→e.on≠i)→oi.apart ops ok=true:=fun k ok hk hki hun hno=>by
        refine hfree k ok hk hki ?_ hno
        by_cases hjk:j=k
        · subst hjk;exact hjun
        · rw [getD_set_ne true hjk] at hun;exact hun
      have hap:=hfree j oj hoj hji hjun hnot
      cases he:eff j with
      | true=>
        rw [if_pos rfl]
        rw [he,if_pos rfl] at h1
        intro w' hb
        have h2:=wpOp_put hoj hap (fun cs b=>hsel i oi cs b hi) (fun cs b=>hsel j oj cs b hoj) (fun c a w h=>absurd h (hQ c _ w)) hy (h1 w' hb)
        refine wpOp_mono (fun a' w2 h3=>ih (listed.setIfInBounds j true) a' w2 hfree' (ready_mono hr (Ne.symm hji)) h3.1 ?_) h2
        rw [Array.setIfInBounds_comm _ _ hji]
        exact h3.2
      | false=>
        rw [if_neg (by simp)]
        rw [he,if_neg (by simp)] at h1
        have h2:=HM hoj hap (fun cs b=>hsel i oi cs b hi) (fun cs b=>hsel j oj cs b hoj) hy h1
        refine qOp_mono (fun a' h3=>ih (listed.setIfInBounds j true) a' w hfree' (ready_mono hr (Ne.symm hji)) h3.1 ?_) h2
        rw [Array.setIfInBounds_comm _ _ hji]
        exact h3.2
theorem sG {W:Nat→Bool} {listed:Array Bool} {i:Nat} (h:xm md ops eff W listed i=true) :
    (∀ j oj,ops[j]?=some oj→eff j=true→listed.getD j true=false→W j=true)∧
    (∀ j oj,ops[j]?=some oj→W j=true→∃ e∈oj.after,Region.binds md e=true∧(e.on=i∨(W e.on=true∧listed.getD e.on true=false))):=by
  have hj:∀ j oj,ops[j]?=some oj→j∈List.range ops.size:=fun j oj ho=>List.mem_range.2 (Array.getElem?_eq_some_iff.1 ho).1
  refine ⟨fun j oj ho he hu=>?_,fun j oj ho hw=>?_⟩
  · have:=List.all_eq_true.1 h j (hj j oj ho)
    simp only [Bool.and_eq_true,Bool.or_eq_true,Bool.not_eq_true',he,unl,hu] at this
    simpa using this.1
  · have:=List.all_eq_true.1 h j (hj j oj ho)
    simp only [Bool.and_eq_true,Bool.or_eq_true,Bool.not_eq_true',ho,hw] at this
    have:=this.2
    simp only [Bool.true_eq_false,false_or,Array.any_eq_true',Bool.and_eq_true,Bool.or_eq_true,beq_iff_eq] at this
    obtain ⟨e,he,hb,h⟩:=this
    refine ⟨e,he,hb,?_⟩
    rcases h with h | ⟨h,h'⟩
    · exact .inl h
    · exact .inr ⟨h,by simpa [unl] using h'⟩
def nG (md:Region.Mode) (ops:Array Oper) (listed:Array Bool) (i:Nat):Array Bool:=
  (List.range ops.size).foldl (fun W j=>W.setIfInBounds j (unl listed j&&(match ops[j]? with | some oj=>oj.after.any fun e=>Region.binds md e&&(e.on == i || W.getD e.on false) | none=>false))) (Array.replicate ops.size false)
def BW (op:Op):Bool:=mS op&&!EJ op
def nq (o:Oper):Bool:=BW o.op
def lS (ops:Array Oper) (k:Nat):Bool:=match ops[k]? with | some o=>nq o | none=>false
def kM (md:Region.Mode) (ops:Array Oper) (eff:Nat→Bool):List Nat→Array Bool→Bool
  | [],listed=>(Region.ready md ops listed).isEmpty
  | k :: ks,listed=>(bif eff k then decide (Region.ready md ops listed=[k])
      else (Region.ready md ops listed).contains k&&Region.free md ops listed k&&(lS ops k || xm md ops eff (fun j=>(nG md ops listed k).getD j false) listed k)) &&
    kM md ops eff ks (listed.setIfInBounds k true)
def dA:Op→Bool
  | .call { callee:=.value _,.. }=>true
  | o=>!mS o
def cR (ops:Array Oper) (k:Nat):Bool:=match ops[k]? with | some o=>dA o.op | none=>true
def BT (ops:Array Oper) (ks:List Nat):Bool:=Region.noSelect ops&&kM .any ops (cR ops) ks (Array.replicate ops.size false)
def GD (ops:Array Oper):Bool:=BT ops (List.range ops.size)
def vB (ops:Array Oper):List Nat:=(List.range ops.size).filter (fun k=>!cR ops k)++(List.range ops.size).filter (cR ops)
def drawE (ops:Array Oper):Bool:=BT ops (vB ops)
def ik (P:Program) (T:TypeId→TI) (ops:Array Oper) (K:ASt→Prop):List Oper→ASt→Prop
  | [],s=>K s
  | o::r,s=>bif dA o.op then kX P T ops s o (ik P T ops K r) else fm P T ops s o (ik P T ops K r)
end
section
variable {P:Program} {T:TypeId→TI} {E:Ent} {s:ASt} {ρ:List (Option (Nat×Nat))} {a:Act} {w:World}
theorem nC (hT:an P T) {ops:Array Oper} {o:Oper} {K:ASt→Prop} (hr:Rep E s ρ a w) (hs:nq o=true) (h:fm P T ops s o K) :
    ∃ u s',Yields P ops o u a∧K s'∧Rep E s' ρ (a.put o.dst u) w:=by
  unfold nq BW at hs
  rw [Bool.and_eq_true,Bool.not_eq_true'] at hs
  obtain ⟨hp,hl⟩:=hs
  unfold fm at h
  split at h
  · rename_i neg n hc
    obtain ⟨b,hb,hrun⟩:=pn hT hr hc
    unfold lv at h
    split at h
    · rename_i hg
      exact ⟨_,_,.inl ⟨by simp [Region.wanted,hg],fun w'=>hrun w'⟩,h.2 b hb,hr.put h.1 (.d _ _ (.bool _))⟩
    · rename_i j want hg
      split at h
      · exact h.elim
      · rename_i g ha
        have hw:=ek hr hg ha
        cases hgb:g with
        | true=>exact ⟨_,_,.inl ⟨by rw [hw,hgb],fun w'=>hrun w'⟩,h.2 b hb,hr.put h.1 (.gd _ _ _ (fun _=>.d _ _ (.bool _)) (fun e=>by rw [hgb] at e;cases e))⟩
        | false=>exact ⟨undef,_,.inr ⟨by rw [hw,hgb],rfl⟩,h.2 b hb,hr.put h.1 (.gd _ _ _ (fun e=>by rw [hgb] at e;cases e) (fun _=>rfl))⟩
  · simp only [nl,hp,if_true] at h
    split at h
    · rename_i hg
      obtain ⟨h1,h2,h3⟩:=h
      obtain ⟨u,hu,hrun⟩:=sA hT hr o hl h1
      exact ⟨u,_,.inl ⟨by simp [Region.wanted,hg],hrun⟩,h3,hr.put h2 hu⟩
    · rename_i j want hg
      split at h
      · exact h.elim
      · rename_i g ha
        have hw:=ek hr hg ha
        obtain ⟨h1,h2,h3⟩:=h
        cases hgb:g with
        | true=>
          obtain ⟨u,hu,hrun⟩:=sA hT hr o hl (h1 hgb)
          exact ⟨u,_,.inl ⟨by rw [hw,hgb],hrun⟩,h3,hr.put h2 (.gd _ _ _ (fun _=>hu) (fun e=>by rw [hgb] at e;cases e))⟩
        | false=>exact ⟨undef,_,.inr ⟨by rw [hw,hgb],rfl⟩,h3,hr.put h2 (.gd _ _ _ (fun e=>by rw [hgb] at e;cases e) (fun _=>rfl))⟩
theorem ix (hT:an P T) {ops:Array Oper} {Q:Exit→Act→World→Prop} {K:ASt→Prop} (hs:Region.noSelect ops=true) (hQ:∀ c a w,¬ Q (.panic c) a w) (hK:∀ s' ρ' a' w',K s'→Rep E s' ρ' a' w'→Q .normal a' w') :
    ∀ (l:List Oper) (ks:List Nat) (listed:Array Bool) (s:ASt) (ρ:List (Option (Nat×Nat))) (a:Act) (w:World),ks.map (fun k=>ops[k]?)=l.map some→kM .any ops (cR ops) ks listed=true→
      ik P T ops K l s→Rep E s ρ a w→dL P .any ops Q (cR ops) l.length listed a w
  | [],ks,listed,s,ρ,a,w,hl,hB,h,hr=>by
    have:ks=[]:=by simpa using hl
    subst this
    exact ⟨by simpa [kM] using hB,fun w' hb=>hK _ _ _ _ h (hr.below hb)⟩
  | o::l,[],listed,s,ρ,a,w,hl,hB,h,hr=>by simp at hl
  | o :: l,k::ks,listed,s,ρ,a,w,hl,hB,h,hr=>by
    simp only [List.map_cons,List.cons.injEq] at hl
    obtain ⟨h0,hl'⟩:=hl
    simp only [List.length_cons,kM,Bool.and_eq_true] at hB
    obtain ⟨hB1,hB2⟩:=hB
    have he:cR ops k=dA o.op:=by simp [cR,h0]
    simp only [ik] at h
    cases hf:dA o.op with
    | true=>
      rw [he,hf] at hB1
      simp only [hf,cond_true] at h
      simp only [cond_true,decide_eq_true_eq] at hB1
      refine ⟨fun h1=>(by rw [hB1] at h1;cases h1),fun i hi=>?_⟩
      rw [hB1] at hi
      have hik:i=k:=by simpa using hi
      subst hik
      rw [if_pos (by rw [he,hf])]
      intro w' hb
      unfold wpOp
      simp only [h0]
      exact iC hT (hr.below hb) o h fun s' ρ' a' w2 hs' hr'=>ix hT hs hQ hK l ks _ s' ρ' a' w2 hl' hB2 hs' hr'
    | false=>
      rw [he,hf] at hB1
      simp only [hf,cond_false] at h
      simp only [cond_false,Bool.and_eq_true] at hB1
      obtain ⟨⟨hB3,hB4⟩,hB5⟩:=hB1
      cases hst:nq o with
      | true=>
        obtain ⟨u,s',hy,g5,hr'⟩:=nC hT hr hst h
        exact p7 h0 (Region.noSelect_spec hs) (by rw [he,hf]) hQ l.length listed a w (Region.free_spec h0 hB4) (by simpa using hB3) hy (ix hT hs hQ hK l ks _ _ ρ _ w hl' hB2 g5 hr')
      | false=>
      have hB5:xm .any ops (cR ops) (fun j=>(nG .any ops listed k).getD j false) listed k=true:=by
        have:lS ops k=false:=by simp [lS,h0,hst]
        simpa [this] using hB5
      have hq:=gA hT hr (ops:=ops) o (KK:=fun a'=>dL P .any ops Q (cR ops) l.length (listed.setIfInBounds k true) a' w) h
        fun s' a' hs' hr'=>ix hT hs hQ hK l ks _ s' ρ a' w hl' hB2 hs' hr'
      have hq':qOp P ops (Bel w) k (fun a'=>dL P .any ops Q (cR ops) l.length (listed.setIfInBounds k true) a' w) a:=by
        unfold qOp
        simp only [h0]
        exact hq
      obtain ⟨v,hy,hKK⟩:=yieldsIn_of_qOp h0 hq'
      obtain ⟨hW1,hW2⟩:=sG hB5
      exact ov h0 (Region.noSelect_spec hs) (by rw [he,hf]) l.length listed a (Region.free_spec h0 hB4) hW1 hW2 (by simpa using hB3) hy hKK
theorem AWP.drawK {Q:Exit→ASt→Prop} {id:Nat} {l l':List Oper} (ks:List Nat) (hm:P.follows .mixedOrders=true) (hT:an P T) (hB:BT l.toArray ks=true) (hks:ks.map (fun k=>l.toArray[k]?)=l'.map some) (hl:l'.length=l.length)
    (h:∀ K:ASt→Prop,(∀ s',Q .normal s'→K s')→ik P T l.toArray K l' s):AWP P (.region id l.toArray true) s Q:=fun E ρ a w hr=>by
  simp only [BT,Bool.and_eq_true] at hB
  refine wpm (wp_region_any (Q:=fun e a' w'=>(∀ c,e≠.panic c)∧∃ s' ρ',Rep E s' ρ' a' w'∧Q e s') hm (hZ (eff:=cR l.toArray) _ _ a w _ ?_ ⟨rfl,rfl,rfl,Nat.le_refl _,fun _ _=>rfl⟩)) fun _ _ _ h=>h.2
  have:=ix (E:=E) hT (Q:=fun e a' w'=>(∀ c,e≠.panic c)∧∃ s' ρ',Rep E s' ρ' a' w'∧Q e s') hB.1 (fun c a w h=>h.1 c rfl) (fun s' ρ' a' w' hs hr'=>⟨by simp,s',ρ',hr',hs⟩) l' ks (Array.replicate l.toArray.size false) s ρ a w hks hB.2
    (h _ fun _ hq=>hq) hr
  simpa [hl] using this
theorem tl (l:List Oper):(List.range l.toArray.size).map (fun k=>l.toArray[k]?)=l.map some:=by
  apply List.ext_getElem?
  intro j
  by_cases hj:j < l.length
  · simp [hj]
  · simp [hj]
theorem AWP.draw {Q:Exit→ASt→Prop} {id:Nat} {l:List Oper} (hm:P.follows .mixedOrders=true) (hT:an P T) (hB:GD l.toArray=true)
    (h:∀ K:ASt→Prop,(∀ s',Q .normal s'→K s')→ik P T l.toArray K l s):AWP P (.region id l.toArray true) s Q:=
  AWP.drawK _ hm hT hB (tl l) rfl h
def rx (l:List Oper):List Oper:=l.filter (fun o=>!dA o.op)++l.filter (fun o=>dA o.op)
theorem mY (p:Oper→Bool) (l:List Oper):∀ (m:List Oper) (o:Nat),(∀ j,m[j]?=l.toArray[o+j]?)→((List.range' o m.length).filter (fun k=>match l.toArray[k]? with | some x=>p x | none=>false)).map (fun k=>l.toArray[k]?)=(m.filter p).map some
  | [],o,_=>rfl
  | x :: m,o,h=>by
    have h0:=h 0
    simp only [List.getElem?_cons_zero,Nat.add_zero] at h0
    have ih:=mY p l m (o+1) fun j=>by have:=h (j+1);simpa [Nat.add_assoc,Nat.add_comm 1 j] using this
    simp only [List.length_cons,List.range'_succ,List.filter_cons,←h0]
    cases p x
    · simpa using ih
    · simp only [if_true,List.map_cons,←h0]
      rw [ih]
theorem AWP.drawE {Q:Exit→ASt→Prop} {id:Nat} {l:List Oper} (hm:P.follows .mixedOrders=true) (hT:an P T) (hB:drawE l.toArray=true)
    (h:∀ K:ASt→Prop,(∀ s',Q .normal s'→K s')→ik P T l.toArray K (rx l) s):AWP P (.region id l.toArray true) s Q:=by
  have e:∀ p:Oper→Bool,((List.range l.toArray.size).filter (fun k=>match l.toArray[k]? with | some x=>p x | none=>false)).map (fun k=>l.toArray[k]?)=(l.filter p).map some:=fun p=>by
    have:=mY p l l 0 fun j=>by simp
    rw [List.range_eq_range']
    simpa using this
  have e1:∀ k,k∈List.range l.toArray.size→(!cR l.toArray k)=(match l.toArray[k]? with | some x=>!dA x.op | none=>false):=fun k hk=>by
    have hk':k < l.length:=by simpa using hk
    simp [cR,hk']
  have e2:∀ k,k∈List.range l.toArray.size→cR l.toArray k=(match l.toArray[k]? with | some x=>dA x.op | none=>false):=fun k hk=>by
    have hk':k < l.length:=by simpa using hk
    simp [cR,hk']
  refine AWP.drawK (vB l.toArray) hm hT hB (l':=rx l) ?_ ?_ h
  · rw [vB,rx,List.map_append,List.map_append,List.filter_congr e1,List.filter_congr e2,e,e]
  · rw [rx,List.length_append,←List.countP_eq_length_filter,←List.countP_eq_length_filter,Nat.add_comm]
    have:=List.length_eq_countP_add_countP (fun o:Oper=>dA o.op) (l:=l)
    simpa using this.symm
inductive Plan where
  | done
  | take (k:Nat) (p:Plan)
  | fork (k1:Nat) (p1:Plan) (k2:Nat) (p2:Plan)
  | forks (k1:Nat) (p1:Plan) (k2:Nat) (p2:Plan) (k3:Nat) (p3:Plan)
def Plan.takes:List Nat→Plan→Plan
  | [],p=>p
  | k::ks,p=>.take k (Plan.takes ks p)
def eE (ops:Array Oper):Plan→Nat→Array Bool→Bool
  | .done,_,listed=>(Region.ready .any ops listed).isEmpty
  | .take k p,f+1,listed=>(bif cR ops k then decide (Region.ready .any ops listed=[k])
      else (Region.ready .any ops listed).contains k&&Region.free .any ops listed k&&(lS ops k || xm .any ops (cR ops) (fun j=>(nG .any ops listed k).getD j false) listed k)) &&
    eE ops p f (listed.setIfInBounds k true)
  | .fork k1 p1 k2 p2,f+1,listed=>decide (Region.ready .any ops listed=[k1,k2])&&eE ops p1 f (listed.setIfInBounds k1 true)&&eE ops p2 f (listed.setIfInBounds k2 true)
  | .forks k1 p1 k2 p2 k3 p3,f+1,listed=>decide (Region.ready .any ops listed=[k1,k2,k3])&&eE ops p1 f (listed.setIfInBounds k1 true)&&eE ops p2 f (listed.setIfInBounds k2 true)&&eE ops p3 f (listed.setIfInBounds k3 true)
  | _,0,_=>false
def BM (ops:Array Oper) (p:Plan):Bool:=Region.noSelect ops&&eE ops p ops.size (Array.replicate ops.size false)
def ex (P:Program) (T:TypeId→TI) (ops:Array Oper) (s:ASt) (o:Option Oper) (K:ASt→Prop):Prop:=
  match o with
  | some o=>bif dA o.op then kX P T ops s o K else fm P T ops s o K
  | none=>False
def eH (P:Program) (T:TypeId→TI) (ops:Array Oper) (K:ASt→Prop):Plan→ASt→Prop
  | .done,s=>K s
  | .take k p,s=>ex P T ops s ops[k]? (eH P T ops K p)
  | .fork k1 p1 k2 p2,s=>ex P T ops s ops[k1]? (eH P T ops K p1)∧ex P T ops s ops[k2]? (eH P T ops K p2)
  | .forks k1 p1 k2 p2 k3 p3,s=>ex P T ops s ops[k1]? (eH P T ops K p1)∧ex P T ops s ops[k2]? (eH P T ops K p2)∧ex P T ops s ops[k3]? (eH P T ops K p3)
theorem eo (hT:an P T) {ops:Array Oper} {Q:Exit→Act→World→Prop} {K:ASt→Prop} {f k:Nat} {listed:Array Bool} (hr:Rep E s ρ a w) (h:ex P T ops s ops[k]? K)
    (hK:∀ s' ρ' a' w',K s'→Rep E s' ρ' a' w'→dL P .any ops Q (cR ops) f (listed.setIfInBounds k true) a' w') :
    if cR ops k=true then (∀ w',Bel w w'→wpOp P ops Q k (fun a' w2=>dL P .any ops Q (cR ops) f (listed.setIfInBounds k true) a' w2) a w')
      else qOp P ops (Bel w) k (fun a'=>dL P .any ops Q (cR ops) f (listed.setIfInBounds k true) a' w) a:=by
  cases h0:ops[k]? with
  | none=>rw [h0] at h;exact h.elim
  | some o=>
    rw [h0] at h
    have he:cR ops k=dA o.op:=by simp [cR,h0]
    simp only [ex] at h
    cases hf:dA o.op with
    | true=>
      rw [if_pos (by rw [he,hf])]
      simp only [hf,cond_true] at h
      intro w' hb
      unfold wpOp
      simp only [h0]
      exact iC hT (hr.below hb) o h fun s' ρ' a' w2 hs' hr'=>hK s' ρ' a' w2 hs' hr'
    | false=>
      rw [if_neg (by rw [he,hf];simp)]
      simp only [hf,cond_false] at h
      have hq:=gA hT hr (ops:=ops) o (KK:=fun a'=>dL P .any ops Q (cR ops) f (listed.setIfInBounds k true) a' w) h
        fun s' a' hs' hr'=>hK s' ρ a' w hs' hr'
      unfold qOp
      simp only [h0]
      exact hq
theorem cP (hT:an P T) {ops:Array Oper} {Q:Exit→Act→World→Prop} {K:ASt→Prop} (hs:Region.noSelect ops=true) (hQ:∀ c a w,¬ Q (.panic c) a w) (hK:∀ s' ρ' a' w',K s'→Rep E s' ρ' a' w'→Q .normal a' w') :
    ∀ (p:Plan) (f:Nat) (listed:Array Bool) (s:ASt) (ρ:List (Option (Nat×Nat))) (a:Act) (w:World),eE ops p f listed=true→
      eH P T ops K p s→Rep E s ρ a w→dL P .any ops Q (cR ops) f listed a w
  | .done,0,listed,s,ρ,a,w,hB,h,hr=>⟨by simpa [eE] using hB,fun w' hb=>hK _ _ _ _ h (hr.below hb)⟩
  | .done,f+1,listed,s,ρ,a,w,hB,h,hr=>by
    have h0:Region.ready .any ops listed=[]:=by simpa [eE] using hB
    exact ⟨fun _ w' hb=>hK _ _ _ _ h (hr.below hb),fun i hi=>by rw [h0] at hi;cases hi⟩
  | .take k p,0,listed,s,ρ,a,w,hB,h,hr=>by simp [eE] at hB
  | .fork k1 p1 k2 p2,0,listed,s,ρ,a,w,hB,h,hr=>by simp [eE] at hB
  | .forks k1 p1 k2 p2 k3 p3,0,listed,s,ρ,a,w,hB,h,hr=>by simp [eE] at hB
  | .forks k1 p1 k2 p2 k3 p3,f+1,listed,s,ρ,a,w,hB,h,hr=>by
    simp only [eE,Bool.and_eq_true,decide_eq_true_eq] at hB
    obtain ⟨⟨⟨hB0,hB1⟩,hB2⟩,hB3⟩:=hB
    refine ⟨fun h1=>(by rw [hB0] at h1;cases h1),fun i hi=>?_⟩
    rw [hB0] at hi
    simp only [List.mem_cons,List.not_mem_nil,or_false] at hi
    rcases hi with rfl | rfl | rfl
    · exact eo hT hr h.1 fun s' ρ' a' w' hs' hr'=>cP hT hs hQ hK p1 f _ s' ρ' a' w' hB1 hs' hr'
    · exact eo hT hr h.2.1 fun s' ρ' a' w' hs' hr'=>cP hT hs hQ hK p2 f _ s' ρ' a' w' hB2 hs' hr'
    · exact eo hT hr h.2.2 fun s' ρ' a' w' hs' hr'=>cP hT hs hQ hK p3 f _ s' ρ' a' w' hB3 hs' hr'
  | .fork k1 p1 k2 p2,f+1,listed,s,ρ,a,w,hB,h,hr=>by
    simp only [eE,Bool.and_eq_true,decide_eq_true_eq] at hB
    obtain ⟨⟨hB0,hB1⟩,hB2⟩:=hB
    refine ⟨fun h1=>(by rw [hB0] at h1;cases h1),fun i hi=>?_⟩
    rw [hB0] at hi
    simp only [List.mem_cons,List.not_mem_nil,or_false] at hi
    rcases hi with rfl | rfl
    · exact eo hT hr h.1 fun s' ρ' a' w' hs' hr'=>cP hT hs hQ hK p1 f _ s' ρ' a' w' hB1 hs' hr'
    · exact eo hT hr h.2 fun s' ρ' a' w' hs' hr'=>cP hT hs hQ hK p2 f _ s' ρ' a' w' hB2 hs' hr'
  | .take k p,f+1,listed,s,ρ,a,w,hB,h,hr=>by
    simp only [eE,Bool.and_eq_true] at hB
    obtain ⟨hB1,hB2⟩:=hB
    simp only [eH] at h
    cases h0:ops[k]? with
    | none=>rw [h0] at h;exact h.elim
    | some o=>
    rw [h0] at h
    simp only [ex] at h
    have he:cR ops k=dA o.op:=by simp [cR,h0]
    cases hf:dA o.op with
    | true=>
      rw [he,hf] at hB1
      simp only [cond_true,decide_eq_true_eq] at hB1
      refine ⟨fun h1=>(by rw [hB1] at h1;cases h1),fun i hi=>?_⟩
      rw [hB1] at hi
      have hik:i=k:=by simpa using hi
      subst hik
      exact eo hT hr (by rw [h0];exact h) fun s' ρ' a' w' hs' hr'=>cP hT hs hQ hK p f _ s' ρ' a' w' hB2 hs' hr'
    | false=>
      rw [he,hf] at hB1
      simp only [hf,cond_false] at h
      simp only [cond_false,Bool.and_eq_true] at hB1
      obtain ⟨⟨hB3,hB4⟩,hB5⟩:=hB1
      cases hst:nq o with
      | true=>
        obtain ⟨u,s',hy,g5,hr'⟩:=nC hT hr hst h
        exact p7 h0 (Region.noSelect_spec hs) (by rw [he,hf]) hQ f listed a w (Region.free_spec h0 hB4) (by simpa using hB3) hy (cP hT hs hQ hK p f _ _ ρ _ w hB2 g5 hr')
      | false=>
      have hB5:xm .any ops (cR ops) (fun j=>(nG .any ops listed k).getD j false) listed k=true:=by
        have:lS ops k=false:=by simp [lS,h0,hst]
        simpa [this] using hB5
      have hq:=gA hT hr (ops:=ops) o (KK:=fun a'=>dL P .any ops Q (cR ops) f (listed.setIfInBounds k true) a' w) h
        fun s' a' hs' hr'=>cP hT hs hQ hK p f _ s' ρ a' w hB2 hs' hr'
      have hq':qOp P ops (Bel w) k (fun a'=>dL P .any ops Q (cR ops) f (listed.setIfInBounds k true) a' w) a:=by
        unfold qOp
        simp only [h0]
        exact hq
      obtain ⟨v,hy,hKK⟩:=yieldsIn_of_qOp h0 hq'
      obtain ⟨hW1,hW2⟩:=sG hB5
      exact ov h0 (Region.noSelect_spec hs) (by rw [he,hf]) f listed a (Region.free_spec h0 hB4) hW1 hW2 (by simpa using hB3) hy hKK
theorem AWP.plan {Q:Exit→ASt→Prop} {id:Nat} {ops:Array Oper} (p:Plan) (hm:P.follows .mixedOrders=true) (hT:an P T) (hB:BM ops p=true)
    (h:∀ K:ASt→Prop,(∀ s',Q .normal s'→K s')→eH P T ops K p s):AWP P (.region id ops true) s Q:=fun E ρ a w hr=>by
  simp only [BM,Bool.and_eq_true] at hB
  refine wpm (wp_region_any (Q:=fun e a' w'=>(∀ c,e≠.panic c)∧∃ s' ρ',Rep E s' ρ' a' w'∧Q e s') hm (hZ (eff:=cR ops) _ _ a w _ ?_ ⟨rfl,rfl,rfl,Nat.le_refl _,fun _ _=>rfl⟩)) fun _ _ _ h=>h.2
  exact cP (E:=E) hT (Q:=fun e a' w'=>(∀ c,e≠.panic c)∧∃ s' ρ',Rep E s' ρ' a' w'∧Q e s') hB.1 (fun c a w h=>h.1 c rfl) (fun s' ρ' a' w' hs hr'=>⟨by simp,s',ρ',hr',hs⟩) p ops.size (Array.replicate ops.size false) s ρ a w hB.2
    (h _ fun _ hq=>hq) hr
end
end Go.Proofs.YtjcooccnfkfjhaaGreatDoor
