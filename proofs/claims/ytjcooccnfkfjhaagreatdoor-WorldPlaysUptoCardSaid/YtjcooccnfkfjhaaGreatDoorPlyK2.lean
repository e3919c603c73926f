/- What the law leans on. No condition. -/
import Derived.ChangeReads
import Derived.SizedLaws
import Derived.ChangeOld
import Derived.ChangeSame
import Derived.ChangeShapes
import Derived.Below
import Derived.RowKit
import Derived.ShutString
import Derived.Carry
import Derived.ProofKit
import Derived.OpenShut
import Derived.IntWalk
import Derived.Lib.Overlaps
import Derived.Test.YtjcooccnfkfjhaaGreatDoorPlyK1
namespace Go.Proofs.YtjcooccnfkfjhaaGreatDoor
set_option linter.unusedVariables false
set_option linter.unusedSimpArgs false
open Go Go.RowKit
def aB(s:ASt):Operand→AV
 |.tmp t=>cy s.env t
 |.const (.int k n)=>.d (.int k n)
 |.const (.bool b)=>.d (.bool b)
 |.const (.string b)=>.d (.str b.data.toList)
 |.const (.slice none 0 0)=>.d (.sc (.slice none 0 0))
 |.const (.pointer none)=>.d (.sc (.pointer none))
 |.func f=>.d (.sc (.func (.func f) #[] #[]))
 |_=>.any
def O9(want b:Bool):Bool:=bif want then b else !b
def oJ(want:Bool):AV→Option Bool
 |.d (.bool b)=>some (O9 want b)
 |.gd g (.d (.bool b))=>some (g&&O9 want b)
 |_=>none
def xH(ops:Array Oper)(env:List (Nat×AV))(j:Nat):AV:=
 match (ops[j]?).bind (·.dst) with
 |some t=>cy env t
 |none=>.any
def goFn (P : Program) (g : FuncId) : Prop := ∃ fn, P.funcs[g]? = some fn ∧ (fn.name == "runtime.NumGoroutine") = false ∧ fn.body.isNone = false
def ia(ρ:List (Option (Nat×Nat)))(ok:Nat→Prop)(w:World)(xs:List AV)(us:List Value):Prop:=
 us.length=xs.length∧∀(j:Nat) (x:AV) (u:Value),xs[j]?=some x→us[j]?=some u→RepV ρ ok w x u
def ab(P:Program)(hp:List ABlk)(g:FuncId)(xs:List AV)(R:AV→List ABlk→Prop):Prop:=
 goFn P g∧∀(E:Ent) (w:World) (us:List Value),E.w0=w→X5 E E.ρ0 hp w→ia E.ρ0 (okB E E.ρ0 hp w) w xs us→
  Calls P g us.toArray w fun e w'=>∃ u v hp' ρ',e=.returned u∧R v hp'∧X5 E ρ' hp' w'∧(∀(k:Nat) (p:Option (Nat×Nat)),E.ρ0[k]?=some p→ρ'[k]?=some p)∧RepV ρ' (okB E ρ' hp' w') w' v u
def qO(P:Program)(hp:List ABlk)(g:FuncId)(xs:List AV)(K:AV→List ABlk→Prop):Prop:=
 goFn P g∧∀(E:Ent) (ρ:List (Option (Nat×Nat))) (w:World) (us:List Value),X5 E ρ hp w→ia ρ (okB E ρ hp w) w xs us→
  Calls P g us.toArray w fun e w'=>∃ u v hp' ρ',e=.returned u∧K v hp'∧HStep E ρ hp w ρ' hp' w'∧RepV ρ' (okB E ρ' hp' w') w' v u
def zL(P:Program)(hp:List ABlk)(g:FuncId)(xs:List AV)(x:AV):Prop:=
 goFn P g∧∀(E:Ent) (ρ:List (Option (Nat×Nat))) (w:World) (us:List Value),X5 E ρ hp w→ia ρ (okB E ρ hp w) w xs us→
  ∃ u,RepV ρ (okB E ρ hp w) w x u∧∀ w',Below w.heap.size w w'→Calls P g us.toArray w' fun e w''=>e=.returned u∧Below w'.heap.size w' w''
structure Tok {α:Type} (x:α) where
def wO(P:Program)(hp:List ABlk)(g:FuncId)(xs:List AV)(x:AV):Prop:=
 ∀ (E:Ent) (ρ:List (Option (Nat×Nat))) (w:World) (us:List Value),X5 E ρ hp w→ia ρ (okB E ρ hp w) w xs us→
   ∃ u,RepV ρ (okB E ρ hp w) w x u∧∀ w',Below w.heap.size w w'→(callFunc g us.toArray).run P w'=.ok (.value u) w'
def nH(P:Program)(hp:List ABlk)(g:FuncId)(xs:List AV)(K:AV→Prop)(_:Tok K):Prop:=∃ v,(zL P hp g xs v∨wO P hp g xs v)∧K v
def Pk(P:Program)(np:Nat)(hp:List ABlk)(g:FuncId)(xs:List AV)(K:AV→List ABlk→Prop):Prop:=
 goFn P g∧∀(E:Ent) (ρ:List (Option (Nat×Nat))) (w:World) (us:List Value),E.ρ0.length=np→X5 E ρ hp w→ia ρ (okB E ρ hp w) w xs us→
  Calls P g us.toArray w fun e w'=>∃ u v hp' ρ',e=.returned u∧K v hp'∧HStep E ρ hp w ρ' hp' w'∧RepV ρ' (okB E ρ' hp' w') w' v u
def cQ(P:Program)(np:Nat)(hp:List ABlk)(g:FuncId)(xs:List AV)(K:AV→List ABlk→Prop)(_:Tok K):Prop:=Pk P np hp g xs K∨∃ v,wO P hp g xs v∧K v hp
theorem kU{P:Program}{np:Nat}{hp:List ABlk}{g:FuncId}{xs:List AV}{K:AV→List ABlk→Prop}{t:Tok K}(h:qO P hp g xs K):cQ P np hp g xs K t:=
 .inl ⟨h.1,fun E ρ w us _=>h.2 E ρ w us⟩
def ls:AV→Option (FuncId×List AV×List AV)
 |.d (.sc (.func (.func g) first caps))=>if first.size=0∧caps.size=0 then some (g,[],[]) else none
 |.clo g first caps=>some (g,first,caps)
 |_=>none
def Me(ti:TI):AV:=
 match ti.kind with
 |.int k=>.d (.int k 0)
 |.str=>.d (.str [])
 |.slice _=>.d (.sc (.slice none 0 0))
 |_=>if ti.size=1 then .d (.bool false) else .agg (ti.zero.map AV.d)
def ou:Op→Bool
 |.move _|.assign _|.pick ..|.load ..|.nilCheck _|.binOp ..|.unOp ..|.slice ..|.fieldAddr ..|.field ..|.indexAddr ..|.index ..|.extract ..|.build ..|.makeFunc ..=>true
 |.call { callee:=.builtin .cap,.. }|.call { callee:=.builtin .len,.. }|.call { callee:=.builtin .min,.. }|.call { callee:=.builtin .max,.. }=>true
 |_=>false
section
variable (P:Program) (T:TypeId→TI)
def tW(s:ASt)(dst:Option Tmp)(op:Op)(K:ASt→Prop):Prop:=
 match op with
 |.alloc t=>(oD (T t) s.hp).ok∧K { s with env:=fJ s.env dst (oD (T t) s.hp).v,hp:=(oD (T t) s.hp).hp }
 |.box _ x=>(Cz (aB s x) s.hp).ok∧K { s with env:=fJ s.env dst (Cz (aB s x) s.hp).v,hp:=(Cz (aB s x) s.hp).hp }
 |.buildSlice t len parts=>jJ (parts.toList.map fun p=>aB s p.2)∧(eP s.np s.hp (parts.toList.map fun p=>(p.1,aj (aB s p.2)))).1∧
   (d8 T (T t) len (eP s.np s.hp (parts.toList.map fun p=>(p.1,aj (aB s p.2)))).2.1 (eP s.np s.hp (parts.toList.map fun p=>(p.1,aj (aB s p.2)))).2.2).ok∧
   K { s with env:=fJ s.env dst (d8 T (T t) len (eP s.np s.hp (parts.toList.map fun p=>(p.1,aj (aB s p.2)))).2.1 (eP s.np s.hp (parts.toList.map fun p=>(p.1,aj (aB s p.2)))).2.2).v,hp:=(d8 T (T t) len (eP s.np s.hp (parts.toList.map fun p=>(p.1,aj (aB s p.2)))).2.1 (eP s.np s.hp (parts.toList.map fun p=>(p.1,aj (aB s p.2)))).2.2).hp }
 |.makeSlice t x y=>de (aB s x)∧de (aB s y)∧(sm T (T t) (aj (aB s x)) (aj (aB s y)) s.hp).ok∧
   K { s with env:=fJ s.env dst (sm T (T t) (aj (aB s x)) (aj (aB s y)) s.hp).v,hp:=(sm T (T t) (aj (aB s x)) (aj (aB s y)) s.hp).hp }
 |.store t x y=>de (aB s x)∧de (aB s y)∧(k8 (T t) (aj (aB s x)) (aj (aB s y)) s.hp).ok∧
   K { s with env:=fJ s.env dst .any,hp:=(k8 (T t) (aj (aB s x)) (aj (aB s y)) s.hp).hp }
 |.convert src dt x=>(lf T s.hp src dt (aB s x)).ok∧K { s with env:=fJ s.env dst (lf T s.hp src dt (aB s x)).v,hp:=(lf T s.hp src dt (aB s x)).hp }
 |.makeMap _ none=>(ka s.hp).ok∧K { s with env:=fJ s.env dst (ka s.hp).v,hp:=(ka s.hp).hp }
 |.mapUpdate t x k v=>de (aB s x)∧de (aB s k)∧de (aB s v)∧(kQ T t (aj (aB s x)) (aj (aB s k)) (aj (aB s v)) s.hp).ok∧
   K { s with env:=fJ s.env dst .any,hp:=(kQ T t (aj (aB s x)) (aj (aB s k)) (aj (aB s v)) s.hp).hp }
 |.lookup t x k false=>de (aB s x)∧de (aB s k)∧(ky T t (aj (aB s x)) (aj (aB s k)) s.hp).ok∧
   K { s with env:=fJ s.env dst (ky T t (aj (aB s x)) (aj (aB s k)) s.hp).v }
 | .call { callee:=.builtin .append,args,argTypes }=>
   (match args.toList,argTypes.toList with
   |[x,y],[t,t']=>de (aB s x)∧de (aB s y)∧(io T t t' (aj (aB s x)) (aj (aB s y)) s.hp).ok∧
     K { s with env:=fJ s.env dst (io T t t' (aj (aB s x)) (aj (aB s y)) s.hp).v,hp:=(io T t t' (aj (aB s x)) (aj (aB s y)) s.hp).hp }
   |_,_=>False)
 | .call { callee:=.builtin .copy,args,argTypes }=>
   (match args.toList,argTypes.toList with
   |[x,y],[t,t']=>de (aB s x)∧de (aB s y)∧(aj (aB s y) matches .d (.str _))=false∧(rN T t t' (aj (aB s x)) (aj (aB s y)) s.hp).ok∧
     K { s with env:=fJ s.env dst (rN T t t' (aj (aB s x)) (aj (aB s y)) s.hp).v,hp:=(rN T t t' (aj (aB s x)) (aj (aB s y)) s.hp).hp }
   |_,_=>False)
 | .call { callee:=.builtin .clear,args,argTypes }=>
   (match args.toList,argTypes.toList with
   |[x],[t]=>de (aB s x)∧(mH T t (aj (aB s x)) s.hp).ok∧
     K { s with env:=fJ s.env dst (mH T t (aj (aB s x)) s.hp).v,hp:=(mH T t (aj (aB s x)) s.hp).hp }
   |_,_=>False)
 | .call { callee:=.value f,args,.. }=>
   (match ls (aj (aB s f)) with
   |some (g,first,caps)=>de (aB s f)∧jJ (args.toList.map (aB s))∧cQ P s.np s.hp g (first++args.toList.map (fun x=>aj (aB s x))++caps) (fun v hp=>K { s with env:=fJ s.env dst v,hp:=hp }) ⟨⟩
   |none=>False)
 |_=>False
def oO(g:Bool)(p:Prop×Prop)(_:Tok p):Prop:=(g=true→p.1)∧(g=false→p.2)
theorem BR{p:Prop×Prop}(t:Tok p):oO true p t=p.1:=by simp[oO]
theorem yN{p:Prop×Prop}(t:Tok p):oO false p t=p.2:=by simp[oO]
theorem aunder_i{g:Bool}{p q:Prop}{t:Tok (p,q)}(h1:g=true→p)(h2:g=false→q):oO g (p,q) t:=⟨h1,h2⟩
def uW(ti:TI)(v:AV):Option Nat:=
 match ti.kind,v with
 |.slice _,.d (.sl _ rows)=>some rows.length
 |.slice _,.osl _ _ _ n=>some n
 |.slice _,.d (.sc (.slice none 0 0))=>some 0
 |_,_=>none
def uF(vl:Operand→AV):Op→Option (Bool×Nat)
 |.binOp .eql t x (.const (.slice none 0 0)) _=>(uW (T t) (vl x)).map fun n=>(false,n)
 |.binOp .neq t x (.const (.slice none 0 0)) _=>(uW (T t) (vl x)).map fun n=>(true,n)
 |_=>none
def nT(ops:Array Oper)(s:ASt)(o:Oper)(neg:Bool)(n:Nat)(K:ASt→Prop):Prop:=
 match o.guard with
 |none=>gw s.nt o.dst∧∀ b:Bool,(0<n→b=false)→K { s with env:=fJ s.env o.dst (.d (.bool (b != neg))) }
 | some (j,want)=>
   match oJ want (xH ops s.env j) with
   |none=>False
   |some g=>gw s.nt o.dst∧∀ b:Bool,(0<n→b=false)→K { s with env:=fJ s.env o.dst (.gd g (.d (.bool (b != neg)))) }
def yU(ops:Array Oper)(s:ASt)(o:Oper)(K:ASt→Prop):Prop:=
 match o.guard with
 | none=>
   if ou o.op then(fY T s.hp (aB s) o.op).ok∧gw s.nt o.dst∧K { s with env:=fJ s.env o.dst (fY T s.hp (aB s) o.op).v }
   else gw s.nt o.dst∧tW P T s o.dst o.op K
 | some (j,want)=>
   match oJ want (xH ops s.env j) with
   |none=>False
   | some g=>
     if ou o.op then(g=true→(fY T s.hp (aB s) o.op).ok)∧gw s.nt o.dst∧K { s with env:=fJ s.env o.dst (.gd g (fY T s.hp (aB s) o.op).v) }
     else gw s.nt o.dst∧oO g (tW P T s o.dst o.op K,K { s with env:=fJ s.env o.dst (.gd false (Me (T o.type))) }) ⟨⟩
def m5(ops:Array Oper)(s:ASt)(o:Oper)(K:ASt→Prop):Prop:=
 match uF T (aB s) o.op with
 |some (neg,n)=>nT ops s o neg n K
 |none=>yU P T ops s o K
def CO(ops:Array Oper)(Q:ASt→Prop):List Oper→ASt→Prop
 |[],s=>Q s
 |o::r,s=>m5 P T ops s o (CO ops Q r)
def pL (ops:Array Oper) (s:ASt) (o:Oper) (K:ASt→Prop):Prop:=
 match o.guard with
 | none=>
   if ou o.op then(fY T s.hp (aB s) o.op).ok∧gw s.nt o.dst∧K { s with env:=fJ s.env o.dst (fY T s.hp (aB s) o.op).v }
   else match o.op with
    |.convert src dst x=>(gr T s.hp src dst (aB s x)).ok∧gw s.nt o.dst∧K { s with env:=fJ s.env o.dst (gr T s.hp src dst (aB s x)).v }
    | .call { callee:=.value f,args,.. }=>
      (match ls (aj (aB s f)) with
      |some (g,first,caps)=>de (aB s f)∧jJ (args.toList.map (aB s))∧gw s.nt o.dst∧nH P s.hp g (first++args.toList.map (fun x=>aj (aB s x))++caps) (fun v=>K { s with env:=fJ s.env o.dst v }) ⟨⟩
      |none=>False)
    |_=>False
 | some (j,want)=>
   match oJ want (xH ops s.env j) with
   |none=>False
   | some g=>
     if ou o.op then(g=true→(fY T s.hp (aB s) o.op).ok)∧gw s.nt o.dst∧K { s with env:=fJ s.env o.dst (.gd g (fY T s.hp (aB s) o.op).v) }
     else match o.op with
      | .call { callee:=.value f,args,.. }=>
        (match ls (aj (aB s f)) with
        |some (h,first,caps)=>gw s.nt o.dst∧oO g (de (aB s f)∧jJ (args.toList.map (aB s))∧nH P s.hp h (first++args.toList.map (fun x=>aj (aB s x))++caps) (fun v=>K { s with env:=fJ s.env o.dst v }) ⟨⟩,
          K { s with env:=fJ s.env o.dst (.gd false (Me (T o.type))) }) ⟨⟩
        |none=>False)
      |.convert src dst x=>(g=true→(gr T s.hp src dst (aB s x)).ok)∧gw s.nt o.dst∧K { s with env:=fJ s.env o.dst (.gd g (gr T s.hp src dst (aB s x)).v) }
      |_=>False
def gx(ops:Array Oper)(s:ASt)(o:Oper)(K:ASt→Prop):Prop:=
 match uF T (aB s) o.op with
 |some (neg,n)=>nT ops s o neg n K
 |none=>pL P T ops s o K
def o7(ops:Array Oper)(Q:ASt→Prop):List Oper→ASt→Prop
 |[],s=>Q s
 |o::r,s=>gx P T ops s o (o7 ops Q r)
def Qy(c:AV)(p q:Prop):Prop:=
 match c with
 |.d (.bool b)=>(b=true→p)∧(b=false→q)
 |_=>False
def AWP(c:Code)(s:ASt)(Q:Exit→ASt→Prop):Prop:=
 ∀(E:Ent) (ρ:List (Option (Nat×Nat))) (a:Act) (w:World),Rep E s ρ a w→c.wp P (fun e a' w'=>∃ s' ρ',Rep E s' ρ' a' w'∧Q e s') a w
def Au:Op→Bool
 |.call { callee:=.value _,.. }=>true
 |.convert ..=>true
 |_=>false
def MN(ops:Array Oper):Bool:=ops.toList.all fun o=>ou o.op||Au o.op
end
section
variable {P:Program} {T:TypeId→TI} {E:Ent} {s:ASt} {ρ:List (Option (Nat×Nat))} {a:Act} {w:World}
theorem bY(h:Rep E s ρ a w)(x:Operand):RepV ρ (okB E ρ s.hp w) w (aB s x) (a.eval x):=by
 unfold aB;split
 ·exact h.env _
 ·exact .d _ _ (.int _ _)
 ·exact .d _ _ (.bool _)
 ·rename_i b
  have:aW b.data.toList=.string b:=by simp[aW]
  have h2:=X7.str (ok:=okB E ρ s.hp w) (w:=w) b.data.toList;rw[this] at h2;exact .d _ _ h2
 ·exact .d _ _ (.sc _ rfl)
 ·exact .d _ _ (.sc _ rfl)
 ·exact .d _ _ (.sc _ rfl)
 ·exact .any _
theorem Rep.lt(_h:Rep E s ρ a w):∀ b,okB E ρ s.hp w b→b<w.heap.size:=fun _ hb=>hb.2.1
theorem ot(hT:ap P T)(h:Rep E s ρ a w)(o:Oper)(hk:(fY T s.hp (aB s) o.op).ok) :
  ∃ u,RepV ρ (okB E ρ s.hp w) w (fY T s.hp (aB s) o.op).v u∧∀ w',Below w.heap.size w w'→(execOp a.eval o).run P w'=.ok (.value u) w':=
 let ⟨u,h1,h2⟩:=rB hT h.lt h.heap.blks (bY h) o hk
 ⟨u,h1,fun w' hb=>h2 w' fun _=>hb⟩
theorem vp(hT:ap P T)(h:Rep E s ρ a w)(o:Oper)(hl:JD o.op=false)(hk:(fY T s.hp (aB s) o.op).ok) :
  ∃ u,RepV ρ (okB E ρ s.hp w) w (fY T s.hp (aB s) o.op).v u∧∀ w',(execOp a.eval o).run P w'=.ok (.value u) w':=
 let ⟨u,h1,h2⟩:=rB hT h.lt h.heap.blks (bY h) o hk
 ⟨u,h1,fun w'=>h2 w' fun e=>by rw[hl] at e;cases e⟩
theorem jg(w:World):Below w.heap.size w w:=⟨rfl,rfl,rfl,RP _,fun _ _=>rfl⟩
theorem fm {ops:Array Oper} {o:Oper} {j:Nat} {want g:Bool} (h:Rep E s ρ a w) (hg:o.guard=some (j,want)) (ha:oJ want (xH ops s.env j)=some g) :
  Region.wanted o (yielded ops a.tmps)=g:=by
 unfold xH at ha;unfold Region.wanted yielded;rw[hg];simp only;cases hd:(ops[j]?).bind (·.dst) with
 |none=>rw[hd] at ha;simp[oJ] at ha
 | some t=>
   rw[hd] at ha;simp only at ha;have hr:=h.env t;unfold oJ at ha;split at ha
   ·rename_i b e
    rw[e] at hr;injection ha with ha;generalize hu:a.tmps.getD t undef=u at hr;cases hr with|d _ _ hr=>cases hr with|bool _=>
    have:a.tmps[t]?=some (.bool b):=by
     rw[Ti] at hu;cases hh:a.tmps[t]? with
     |none=>rw[hh] at hu;simp[undef] at hu
     |some v=>rw[hh] at hu;simp at hu;rw[hu]
    simp only[U6,this];rw[←ha];cases b<;>cases want<;>rfl
   ·rename_i g' b e
    rw[e] at hr;injection ha with ha;generalize hu:a.tmps.getD t undef=u at hr;cases hr with|gd _ _ _ ht hf=>
    cases g' with
    | true=>
      have hr:=ht rfl;cases hr with|d _ _ hr=>cases hr with|bool _=>
      have:a.tmps[t]?=some (.bool b):=by
       rw[Ti] at hu;cases hh:a.tmps[t]? with
       |none=>rw[hh] at hu;simp[undef] at hu
       |some v=>rw[hh] at hu;simp at hu;rw[hu]
      simp only[U6,this];rw[←ha];cases b<;>cases want<;>rfl
    | false=>
      have:=hf rfl;subst this;rw[←ha];simp only[U6,Um];cases hh:a.tmps[t]? with
      |none=>simp
      | some v=>
        rw[Ti,hh] at hu;simp at hu;subst hu;simp[undef]
   ·cases ha
theorem zT{g:FuncId}(hg:goFn P g)(us:Array Value)(w:World):(callFunc g us).run P w=.ok (.enter g us) w:=by
 obtain⟨fn,h1,h2,h3⟩:=hg;have h3':¬ (fn.body.isNone=true):=by rw[h3];simp
 simp only[callFunc,SS,run_program,So,h1];simp[h2,h3']
theorem rF{f:Operand}{args:Array Operand}{ats:Array TypeId}{dst:Option Tmp}{ty:TypeId}{pos:String}{after:Array Edge}{guard:Option (Nat×Bool)}{g:FuncId}{us vs:Array Value}
  (hf:a.eval f=.func (.func g) us vs) (hg:goFn P g) (w':World) :
  (execOp a.eval { dst,op:=.call { callee:=.value f,args,argTypes:=ats },type:=ty,pos,after,guard }).run P w'=.ok (.enter g (us++args.map a.eval++vs)) w':=by
 simp only[execOp,resolve,hf,Deferred.ofValue,SS,S4,So,invoke];exact zT hg _ w'
theorem qg{f:Operand}{args:Array Operand}{ats:Array TypeId}{dst:Option Tmp}{ty:TypeId}{pos:String}{after:Array Edge}{guard:Option (Nat×Bool)}{g:FuncId}{us vs:Array Value}
  (hf:a.eval f=.func (.func g) us vs) (w':World) :
  (execOp a.eval { dst,op:=.call { callee:=.value f,args,argTypes:=ats },type:=ty,pos,after,guard }).run P w'=(callFunc g (us++args.map a.eval++vs)).run P w':=by
 simp only[execOp,resolve,hf,Deferred.ofValue,SS,S4,So,invoke]
theorem wF{f:Operand}{g:FuncId}{first caps:List AV}(h:Rep E s ρ a w)(hg:de (aB s f))(hc:ls (aj (aB s f))=some (g,first,caps)) :
  ∃ us vs:List Value,a.eval f=.func (.func g) us.toArray vs.toArray∧ia ρ (okB E ρ s.hp w) w first us∧ia ρ (okB E ρ s.hp w) w caps vs:=by
 have hr:=ai (bY h f) hg;unfold ls at hc;split at hc
 ·rename_i g' fi ca e
  rw[e] at hr;split at hc
  ·rename_i hz
   injection hc with hc;injection hc with h1 h2;injection h2 with h2 h3;subst h1;subst h2;subst h3;generalize hu:a.eval f=u at hr;cases hr with|d _ _ hr=>cases hr with|sc _ _=>
   have e1:fi=#[]:=Vv hz.1;have e2:ca=#[]:=Vv hz.2;subst e1;subst e2;exact⟨[],[],rfl,⟨rfl,by simp⟩,⟨rfl,by simp⟩⟩
  ·cases hc
 ·rename_i g' fi ca e
  rw[e] at hr;injection hc with hc;injection hc with h1 h2;injection h2 with h2 h3;subst h1;subst h2;subst h3;generalize hu:a.eval f=u at hr;cases hr with|clo _ _ _ us vs hl hl' hr hr'=>exact⟨us,vs,rfl,⟨hl,hr⟩,⟨hl',hr'⟩⟩
 ·cases hc
theorem iF{ok:Nat→Prop}{xs ys:List AV}{us vs:List Value}(h1:ia ρ ok w xs us)(h2:ia ρ ok w ys vs):ia ρ ok w (xs++ys) (us++vs):=by
 refine⟨by simp[h1.1,h2.1],fun j x u hx hu=>?_⟩
 by_cases hj:j<xs.length
 ·rw[R2 hj] at hx
  rw[R2 (by rw[h1.1];exact hj)] at hu;exact h1.2 j x u hx hu
 ·rw[RT (by omega)] at hx
  rw[RT (by rw[h1.1];omega),h1.1] at hu;exact h2.2 _ x u hx hu
theorem Er(h:Rep E s ρ a w){args:Array Operand}(hg:jJ (args.toList.map (aB s))):ia ρ (okB E ρ s.hp w) w (args.toList.map fun x=>aj (aB s x)) (args.toList.map a.eval):=by refine⟨by simp,fun j x u hx hu=>?_⟩;rw[RS] at hx hu;obtain⟨q,hq,rfl⟩:=RY.1 hx;rw[hq] at hu;simp at hu;subst hu;exact ai (bY h q) (iU hg (j:=j) (by rw[RS,hq];rfl))
theorem jQ(us vs:List Value)(args:Array Operand):us.toArray++args.map a.eval++vs.toArray=(us++args.toList.map a.eval++vs).toArray:=by apply TN;simp
theorem ex{hp':List ABlk}{ρ':List (Option (Nat×Nat))}{w':World}{dst:Option Tmp}{v:AV}{u:Value}(h:Rep E s ρ a w)(hd:gw s.nt dst)(hs:HStep E ρ s.hp w ρ' hp' w')
  (hv:RepV ρ' (okB E ρ' hp' w') w' v u):Rep E { s with env:=fJ s.env dst v,hp:=hp' } ρ' (a.put dst u) w':=
 (h.step hs).put hd hv
theorem pq(hT:ap P T)(h:Rep E s ρ a w)(o:Oper){Q:Exit→Act→World→Prop}{KK:Act→World→Prop}{K:ASt→Prop}(hk:tW P T s o.dst o.op K)(hd:gw s.nt o.dst)
  (hK:∀ s' ρ' a' w',K s'→Rep E s' ρ' a' w'→KK a' w'):o.wp P a w KK Q:=by
 obtain⟨dst,op,ty,pos,after,guard⟩:=o;simp only at hk hd hK;unfold tW at hk;split at hk
 ·rename_i t
  obtain⟨h1,h2⟩:=hk;obtain⟨u,⟨u',w',ρ',hr,hs,hv⟩,hrun⟩:=yT hT h.heap t h1;rcases hr with hr|⟨hr,_⟩
  ·injection hr with hr1 hr2
   injection hr1 with hr1;subst hr1;subst hr2;unfold Oper.wp;simp only[execOp,SS,hrun,So,S4];exact hK _ _ _ _ h2 (ex h hd hs hv)
  ·cases hr
 ·rename_i t x
  obtain⟨h1,h2⟩:=hk;obtain⟨u,w',⟨u',w2,ρ',hr,hs,hv⟩,hrun⟩:=DB (P:=P) h.heap t (aB s x) _ (bY h x) h1;rcases hr with hr|⟨hr,_⟩
  ·injection hr with hr1 hr2
   injection hr1 with hr1;subst hr1;subst hr2;unfold Oper.wp;simp only[execOp,SS,hrun,So,S4];exact hK _ _ _ _ h2 (ex h hd hs hv)
  ·cases hr
 ·rename_i t len parts
  obtain⟨h0,hb,h1,h2⟩:=hk
  obtain⟨hst,hlen,hparts⟩:=wb h.heap h.np (ps:=parts.toList.map fun p=>(p.1,aj (aB s p.2))) (vs:=parts.toList.map fun p=>(p.1,a.eval p.2)) (by simp)
   (fun j x y hx hy=>by
    rw[RS] at hx hy;obtain⟨q,hq,rfl⟩:=RY.1 hx;rw[hq] at hy;simp at hy;subst hy
    exact⟨rfl,ai (bY h q.2) (iU h0 (j:=j) (by rw[RS,hq];rfl))⟩) hb
  obtain⟨u,w',⟨u',w2,ρ',hr,hs,hv⟩,hrun⟩:=qj (P:=P) hT hst.heap t len _ (parts.toList.map fun p=>(p.1,a.eval p.2)) hlen hparts h1;have hs:=hst.trans hs;rcases hr with hr|⟨hr,_⟩
  ·injection hr with hr1 hr2
   injection hr1 with hr1;subst hr1;subst hr2;have e:(parts.toList.map fun p=>(p.1,a.eval p.2)).toArray=parts.map fun(i,x)=>(i,a.eval x):=by apply TN;simp
   rw[e] at hrun;unfold Oper.wp;simp only[execOp,SS,hrun,So,S4];exact hK _ _ _ _ h2 (ex h hd hs hv)
  ·cases hr
 ·rename_i t x y
  obtain⟨hg1,hg2,h1,h2⟩:=hk;obtain⟨u,w',⟨u',w2,ρ',hr,hs,hv⟩,hrun⟩:=BX (P:=P) hT h.heap t _ _ _ _ (ai (bY h x) hg1) (ai (bY h y) hg2) h1;rcases hr with hr|⟨hr,_⟩
  ·injection hr with hr1 hr2
   injection hr1 with hr1;subst hr1;subst hr2;unfold Oper.wp;simp only[execOp,SS,hrun,So,S4];exact hK _ _ _ _ h2 (ex h hd hs hv)
  ·cases hr
 ·rename_i t x y
  obtain⟨hg1,hg2,h1,h2⟩:=hk;obtain⟨w',⟨u',w2,ρ',hr,hs,hv⟩,hrun⟩:=wq (P:=P) hT h.heap t _ _ _ _ (ai (bY h x) hg1) (ai (bY h y) hg2) h1;rcases hr with hr|⟨hr,hu⟩
  ·cases hr
  ·injection hr with hr1 hr2
   subst hr2;subst hu;unfold Oper.wp;simp only[execOp,SS,hrun,So,S4];exact hK _ _ _ _ h2 (ex h hd hs (.any _))
 ·rename_i src dst' x
  obtain⟨h1,h2⟩:=hk;obtain⟨u,w',ρ',hu,hs,hrun⟩:=yW (P:=P) hT h.heap (bY h x) h1;unfold Oper.wp;simp only[execOp,SS,hrun,So,S4];exact hK _ _ _ _ h2 (ex h hd hs hu)
 ·rename_i t
  obtain⟨_,h2⟩:=hk;obtain⟨u,w',⟨u',w2,ρ',hr,hs,hv⟩,hrun⟩:=tX (P:=P) h.heap t;rcases hr with hr|⟨hr,_⟩
  ·injection hr with hr1 hr2
   injection hr1 with hr1;subst hr1;subst hr2;unfold Oper.wp;simp only[execOp,Wy,SS,hrun,So,S4];exact hK _ _ _ _ h2 (ex h hd hs hv)
  ·cases hr
 ·rename_i t x k v
  obtain⟨hg1,hg2,hg3,h1,h2⟩:=hk;obtain⟨w',⟨u',w2,ρ',hr,hs,hv⟩,hrun⟩:=wk (P:=P) hT h.heap t _ _ _ _ _ _ (ai (bY h x) hg1) (ai (bY h k) hg2) (ai (bY h v) hg3) h1;rcases hr with hr|⟨hr,hu⟩
  ·cases hr
  ·injection hr with hr1 hr2
   subst hr2;subst hu;unfold Oper.wp;simp only[execOp,SS,hrun,So,S4];exact hK _ _ _ _ h2 (ex h hd hs (.any _))
 ·rename_i t x k
  obtain⟨hg1,hg2,h1,h2⟩:=hk;obtain⟨u,hu,hrun⟩:=tp (P:=P) hT h.heap t _ _ _ _ (ai (bY h x) hg1) (ai (bY h k) hg2) h1;unfold Oper.wp;simp only[execOp,SS,hrun,So,S4];exact hK _ _ _ _ h2 (h.put hd hu)
 ·rename_i args argTypes
  split at hk
  ·rename_i x y t t' hx ht
   obtain⟨hg1,hg2,h1,h2⟩:=hk;have ea:args=#[x,y]:=by apply TN;simpa using hx
   have et:argTypes=#[t,t']:=by apply TN;simpa using ht
   subst ea;subst et;obtain⟨u,w',⟨u',w2,ρ',hr,hs,hv⟩,hrun⟩:=tE (P:=P) hT h.heap t t' ty _ _ _ _ (ai (bY h x) hg1) (ai (bY h y) hg2) h1;rcases hr with hr|⟨hr,_⟩
   ·injection hr with hr1 hr2
    injection hr1 with hr1;subst hr1;subst hr2;unfold Oper.wp;simp only[execOp,resolve,invoke,Go.builtin,SS,S4,So,Wf,TL,TV,hrun];exact hK _ _ _ _ h2 (ex h hd hs hv)
   ·cases hr
  ·exact hk.elim
 ·rename_i args argTypes
  split at hk
  ·rename_i x y t t' hx ht
   obtain⟨hg1,hg2,hns,h1,h2⟩:=hk;have ea:args=#[x,y]:=by apply TN;simpa using hx
   have et:argTypes=#[t,t']:=by apply TN;simpa using ht
   subst ea;subst et;obtain⟨u,w',⟨u',w2,ρ',hr,hs,hv⟩,hrun⟩:=BN (P:=P) hT h.heap t t' ty _ _ _ _ (ai (bY h x) hg1) (ai (bY h y) hg2) (fun l e=>by rw[e] at hns;simp at hns) h1;rcases hr with hr|⟨hr,_⟩
   ·injection hr with hr1 hr2
    injection hr1 with hr1;subst hr1;subst hr2;unfold Oper.wp;simp only[execOp,resolve,invoke,Go.builtin,SS,S4,So,Wf,TL,TV,hrun];exact hK _ _ _ _ h2 (ex h hd hs hv)
   ·cases hr
  ·exact hk.elim
 ·rename_i args argTypes
  split at hk
  ·rename_i x t hx ht
   obtain⟨hg1,h1,h2⟩:=hk;have ea:args=#[x]:=by apply TN;simpa using hx
   have et:argTypes=#[t]:=by apply TN;simpa using ht
   subst ea;subst et;obtain⟨u,w',⟨u',w2,ρ',hr,hs,hv⟩,hrun⟩:=zZ (P:=P) hT h.heap t ty _ _ (ai (bY h x) hg1) h1;rcases hr with hr|⟨hr,_⟩
   ·injection hr with hr1 hr2
    injection hr1 with hr1;subst hr1;subst hr2;unfold Oper.wp;simp only[execOp,resolve,invoke,Go.builtin,SS,S4,So,Wf,TL,TV,hrun];exact hK _ _ _ _ h2 (ex h hd hs hv)
   ·cases hr
  ·exact hk.elim
 ·rename_i f args ats
  split at hk
  ·rename_i g first caps hc
   obtain⟨hg,hgs,hcall⟩:=hk;obtain⟨us,vs,hf,hus,hvs⟩:=wF h hg hc;have hargs:=iF (iF hus (Er h hgs)) hvs;rcases hcall with⟨hgo,hcall⟩|⟨v,hext,hKv⟩
   ·have:=hcall E ρ w _ h.np h.heap hargs
    unfold Oper.wp;rw[rF hf hgo,jQ];refine this.mono fun e w' hh=>?_
    obtain⟨u,v,hp',ρ',rfl,hKv,hs,hv⟩:=hh;exact hK _ _ _ _ hKv (ex h hd hs hv)
   ·obtain⟨u,hu,hrun⟩:=hext E ρ w _ h.heap hargs
    unfold Oper.wp;rw[qg hf,jQ,hrun w (jg w)];exact hK _ _ _ _ hKv (h.put hd hu)
  ·exact hk.elim
 ·exact hk.elim
theorem wA(hT:ap P T){ok:Nat→Prop}{t:TypeId}{v:AV}{u:Value}{n:Nat}(hv:RepV ρ ok w v u)(h:uW (T t) v=some n) :
  ∃ A l c,u=.slice A l c∧(0<n→A.isNone=false)∧∃ e,P.underlying t=some (.slice e):=by
 unfold uW at h;split at h
 ·rename_i e sz rows hk
  injection h with h;subst h;cases hv with|d _ _ hv=>cases hv with|sl _ _ A cap u hcap hsz hc hr=>
  refine⟨A,_,_,rfl,fun hp=>?_,e,aC hT hk⟩;obtain⟨b,o,rfl,_⟩:=hc hp;rfl
 ·rename_i e k sz off n' hk
  injection h with h;subst h;cases hv with
  |osl _ _ _ _ b m cap _ _ _=>exact⟨_,_,_,rfl,fun _=>rfl,e,aC hT hk⟩
  |oslnil _ _ A _=>exact⟨_,_,_,rfl,fun hp=>by omega,e,aC hT hk⟩
 ·rename_i e hk
  injection h with h;subst h;cases hv with|d _ _ hv=>
  obtain⟨A,rfl⟩:=jd hv;exact⟨_,_,_,rfl,fun hp=>by omega,e,aC hT hk⟩
 ·cases h
theorem uX(w':World){t e:TypeId}(ht:P.underlying t=some (.slice e))(A:Option Addr)(l c:Nat) :
  (Go.binOp .eql t (.slice A l c) (.slice none 0 0)).run P w'=.ok (.bool A.isNone) w'∧(Go.binOp .neq t (.slice A l c) (.slice none 0 0)).run P w'=.ok (.bool !A.isNone) w':=by
 have h:∀ d:Nat,(Op.equalIn (d+1) t (.slice A l c) (.slice none 0 0)).run P w'=.ok A.isNone w':=fun d=>by cases A<;>simp[Op.equalIn,R4 ht]
 have h2:(Op.equal t (.slice A l c) (.slice none 0 0)).run P w'=.ok A.isNone w':=h 9999;exact⟨by simp[Go.binOp,h2],by simp[Go.binOp,h2]⟩
theorem qz(hT:ap P T)(h:Rep E s ρ a w){o:Oper}{neg:Bool}{n:Nat}(hc:uF T (aB s) o.op=some (neg,n)) :
  ∃ b:Bool,(0<n→b=false)∧∀ w',(execOp a.eval o).run P w'=.ok (.value (.bool (b != neg))) w':=by
 obtain⟨dst,op,ty,pos,after,guard⟩:=o;simp only at hc;unfold uF at hc;split at hc
 ·rename_i t x tt
  obtain⟨n',hn,he⟩:=RY.1 hc;injection he with he1 he2;subst he1;subst he2;obtain⟨A,l,c,hu,hA,e,ht⟩:=wA hT (bY h x) hn
  exact⟨A.isNone,hA,fun w'=>by
   have hc2:a.eval (.const (.slice none 0 0))=.slice none 0 0:=rfl
   simp[execOp,hu,hc2,eqGuard,(uX (P:=P) w' ht A l c).1]⟩
 ·rename_i t x tt
  obtain⟨n',hn,he⟩:=RY.1 hc;injection he with he1 he2;subst he1;subst he2;obtain⟨A,l,c,hu,hA,e,ht⟩:=wA hT (bY h x) hn
  exact⟨A.isNone,hA,fun w'=>by
   have hc2:a.eval (.const (.slice none 0 0))=.slice none 0 0:=rfl
   simp[execOp,hu,hc2,eqGuard,(uX (P:=P) w' ht A l c).2]⟩
 ·cases hc
theorem yL(hT:ap P T)(h:Rep E s ρ a w){ops:Array Oper}(o:Oper){Q:Exit→Act→World→Prop}{KK:Act→World→Prop}{K:ASt→Prop}(hk:yU P T ops s o K)
  (hK:∀ s' ρ' a' w',K s'→Rep E s' ρ' a' w'→KK a' w') :
  if Region.wanted o (yielded ops a.tmps) then o.wp P a w KK Q∨(o.asks P a w∧LetsOut Q) else KK (a.put o.dst undef) w:=by
 unfold yU at hk;split at hk
 ·rename_i hg
  rw[RJ (by simp[Region.wanted,hg])];left;split at hk
  ·obtain⟨h1,h2,h3⟩:=hk
   obtain⟨u,hu,hrun⟩:=ot hT h o h1;unfold Oper.wp;rw[hrun w (jg w)];exact hK _ _ _ _ h3 (h.put h2 hu)
  ·obtain⟨h1,h2⟩:=hk
   exact pq hT h o h2 h1 hK
 ·rename_i j want hg
  split at hk
  ·exact hk.elim
  ·rename_i g ha
   have hw:=fm h hg ha;split at hk
   ·obtain⟨h1,h2,h3⟩:=hk
    cases hgb:g with
    | true=>
      rw[RJ (by rw[hw,hgb])];left;obtain⟨u,hu,hrun⟩:=ot hT h o (h1 hgb);unfold Oper.wp;rw[hrun w (jg w)];exact hK _ _ _ _ h3 (h.put h2 (.gd _ _ _ (fun _=>hu) (fun e=>by rw[hgb] at e;cases e)))
    | false=>
      rw[RI (by rw[hw,hgb];simp)];exact hK _ _ _ _ h3 (h.put h2 (.gd _ _ _ (fun e=>by rw[hgb] at e;cases e) (fun _=>rfl)))
   ·obtain⟨h1,h2,h3⟩:=hk
    cases hgb:g with
    | true=>
      rw[RJ (by rw[hw,hgb])];left;exact pq hT h o (h2 hgb) h1 hK
    | false=>
      rw[RI (by rw[hw,hgb];simp)];exact hK _ _ _ _ (h3 hgb) (h.put h1 (.gd _ _ _ (fun e=>by cases e) (fun _=>rfl)))
theorem jP(hT:ap P T)(h:Rep E s ρ a w){ops:Array Oper}(o:Oper){Q:Exit→Act→World→Prop}{KK:Act→World→Prop}{K:ASt→Prop}(hk:m5 P T ops s o K)
  (hK:∀ s' ρ' a' w',K s'→Rep E s' ρ' a' w'→KK a' w') :
  if Region.wanted o (yielded ops a.tmps) then o.wp P a w KK Q∨(o.asks P a w∧LetsOut Q) else KK (a.put o.dst undef) w:=by
 unfold m5 at hk;split at hk
 ·rename_i neg n hc
  obtain⟨b,hb,hrun⟩:=qz hT h hc;unfold nT at hk;split at hk
  ·rename_i hg
   rw[RJ (by simp[Region.wanted,hg])];left;unfold Oper.wp;rw[hrun w];exact hK _ _ _ _ (hk.2 b hb) (h.put hk.1 (.d _ _ (.bool _)))
  ·rename_i j want hg
   split at hk
   ·exact hk.elim
   ·rename_i g ha
    have hw:=fm h hg ha;cases hgb:g with
    | true=>
      rw[RJ (by rw[hw,hgb])];left;unfold Oper.wp;rw[hrun w];exact hK _ _ _ _ (hk.2 b hb) (h.put hk.1 (.gd _ _ _ (fun _=>.d _ _ (.bool _)) (fun e=>by rw[hgb] at e;cases e)))
    | false=>
      rw[RI (by rw[hw,hgb];simp)];exact hK _ _ _ _ (hk.2 b hb) (h.put hk.1 (.gd _ _ _ (fun e=>by rw[hgb] at e;cases e) (fun _=>rfl)))
 ·exact yL hT h o hk hK
theorem vK(hT:ap P T){ops:Array Oper}{Q:Exit→Act→World→Prop}{K:ASt→Prop}(hK:∀ s' ρ' a' w',K s'→Rep E s' ρ' a' w'→Q .normal a' w') :
  ∀(l:List Oper) (s:ASt) (ρ:List (Option (Nat×Nat))) (a:Act) (w:World),CO P T ops K l s→Rep E s ρ a w→wpList P ops Q l a w
 |[],s,ρ,a,w,hk,h=>hK _ _ _ _ hk h
 |o::r,s,ρ,a,w,hk,h=>jP hT h o hk fun s' ρ' a' w' hs hr=>vK hT hK r s' ρ' a' w' hs hr
def vN(P:Program)(o:Oper)(a:Act)(w:World)(KK:Act→Prop):Prop:=∃ v,(∀ w',Below w.heap.size w w'→o.quietAt P a (fun w''=>Below w'.heap.size w' w'') w' v)∧KK (a.put o.dst v)
theorem mG{C C':World→Prop}{w:World}{v:Value}{r:Result Next}(hC:∀ w,C w→C' w)(h:Oper.quietUpon P C w v r):Oper.quietUpon P C' w v r:=by
 match r with
 |.ok (.value u) w'=>exact h
 |.ok .skip w'=>exact h
 |.ok (.enter f args) w'=>exact⟨h.1,h.2.mono fun e w'' ⟨h1,h2⟩=>⟨h1,hC _ h2⟩⟩
 |.ok (.defer _) _=>exact h
 |.ok (.row _ _) _=>exact h
 |.halt _ _=>exact h
theorem vB (hT:ap P T) (h:Rep E s ρ a w) {ops:Array Oper} (o:Oper) {KK:Act→Prop} {K:ASt→Prop} (hk:pL P T ops s o K)
  (hK:∀ s' a',K s'→Rep E s' ρ a' w→KK a') :
  if Region.wanted o (yielded ops a.tmps) then vN P o a w KK else KK (a.put o.dst undef):=by
 have hpure:∀(dstv:AV→AV),(fY T s.hp (aB s) o.op).ok→gw s.nt o.dst→(∀ u,RepV ρ (okB E ρ s.hp w) w (fY T s.hp (aB s) o.op).v u→RepV ρ (okB E ρ s.hp w) w (dstv (fY T s.hp (aB s) o.op).v) u)→
   K { s with env:=fJ s.env o.dst (dstv (fY T s.hp (aB s) o.op).v) }→vN P o a w KK:=by
  intro dstv h1 h2 h3 h4;obtain⟨u,hu,hrun⟩:=ot hT h o h1;exact⟨u,fun w' hb=>by unfold Oper.quietAt;rw[hrun w' hb];exact⟨rfl,rfl⟩,hK _ _ h4 (h.put h2 (h3 u hu))⟩
 have hcall:∀(f:Operand) (args:Array Operand) (ats:Array TypeId) (g:FuncId) (first caps:List AV) (v:AV),o.op=.call { callee:=.value f,args,argTypes:=ats }→ls (aj (aB s f))=some (g,first,caps)→
   de (aB s f)→jJ (args.toList.map (aB s))→gw s.nt o.dst→(zL P s.hp g (first++args.toList.map (fun x=>aj (aB s x))++caps) v∨wO P s.hp g (first++args.toList.map (fun x=>aj (aB s x))++caps) v)→K { s with env:=fJ s.env o.dst v }→vN P o a w KK:=by
  intro f args ats g first caps v ho hc hg hgs hd hq hv
  obtain⟨us,vs,hf,hus,hvs⟩:=wF h hg hc;have hargs:=iF (iF hus (Er h hgs)) hvs;rcases hq with hq|hq;rotate_left
  ·obtain⟨u,hu,hrun⟩:=hq E ρ w _ h.heap hargs
   refine⟨u,fun w' hb=>?_,hK _ _ hv (h.put hd hu)⟩;obtain⟨dst,op,ty,pos,after,guard⟩:=o;simp only at ho;subst ho;unfold Oper.quietAt;rw[qg hf,jQ,hrun w' hb];exact⟨rfl,rfl⟩
  obtain⟨u,hu,hrun⟩:=hq.2 E ρ w _ h.heap hargs;refine⟨u,fun w' hb=>?_,hK _ _ hv (h.put hd hu)⟩;obtain⟨dst,op,ty,pos,after,guard⟩:=o;simp only at ho;subst ho;unfold Oper.quietAt;rw[rF hf hq.1,jQ];exact⟨rfl,hrun w' hb⟩
 have hconv:∀(src dst:TypeId) (x:Operand) (dstv:AV→AV),o.op=.convert src dst x→(gr T s.hp src dst (aB s x)).ok→gw s.nt o.dst→
   (∀ u,RepV ρ (okB E ρ s.hp w) w (gr T s.hp src dst (aB s x)).v u→RepV ρ (okB E ρ s.hp w) w (dstv (gr T s.hp src dst (aB s x)).v) u)→
   K { s with env:=fJ s.env o.dst (dstv (gr T s.hp src dst (aB s x)).v) }→vN P o a w KK:=by
  intro src dst x dstv ho h1 h2 h3 h4;obtain⟨u,hu,hrun⟩:=pE (P:=P) hT h.heap.blks (fun b hb=>hb.2.1) (bY h x) h1;refine⟨u,fun w' hb=>?_,hK _ _ h4 (h.put h2 (h3 u hu))⟩;obtain⟨dst',op,ty,pos,after,guard⟩:=o;simp only at ho;subst ho;unfold Oper.quietAt;simp only[execOp,SS,hrun w' hb,So,S4];exact⟨rfl,rfl⟩
 unfold pL at hk;split at hk
 ·rename_i hg
  rw[RJ (by simp[Region.wanted,hg])];split at hk
  ·obtain⟨h1,h2,h3⟩:=hk
   exact hpure id h1 h2 (fun _ hu=>hu) h3
  ·split at hk
   ·rename_i src dst x ho
    obtain⟨h1,h2,h3⟩:=hk;exact hconv src dst x id ho h1 h2 (fun _ hu=>hu) h3
   ·rename_i f args ats ho
    split at hk
    ·rename_i g first caps hc
     obtain⟨h1,h2,h3,v,h4,h5⟩:=hk;exact hcall f args ats g first caps v ho hc h1 h2 h3 h4 h5
    ·exact hk.elim
   ·exact hk.elim
 ·rename_i j want hg
  split at hk
  ·exact hk.elim
  ·rename_i g ha
   have hw:=fm h hg ha;split at hk
   ·obtain⟨h1,h2,h3⟩:=hk
    cases hgb:g with
    | true=>
      rw[RJ (by rw[hw,hgb])];exact hpure (.gd g) (h1 hgb) h2 (fun u hu=>.gd _ _ _ (fun _=>hu) (fun e=>by rw[hgb] at e;cases e)) h3
    | false=>
      rw[RI (by rw[hw,hgb];simp)];exact hK _ _ h3 (h.put h2 (.gd _ _ _ (fun e=>by rw[hgb] at e;cases e) (fun _=>rfl)))
   ·split at hk
    ·rename_i f args ats ho
     split at hk
     ·rename_i g' first caps hc
      obtain⟨h3,h6,h7⟩:=hk;cases hgb:g with
      | true=>
        rw[RJ (by rw[hw,hgb])];obtain⟨h1,h2,v,h4,h5⟩:=h6 hgb;exact hcall f args ats g' first caps v ho hc h1 h2 h3 h4 h5
      | false=>
        rw[RI (by rw[hw,hgb];simp)];exact hK _ _ (h7 hgb) (h.put h3 (.gd _ _ _ (fun e=>by cases e) (fun _=>rfl)))
     ·exact hk.elim
    ·rename_i src dst x ho
     obtain⟨h1,h2,h3⟩:=hk;cases hgb:g with
     | true=>
       rw[RJ (by rw[hw,hgb])];exact hconv src dst x (.gd g) ho (h1 hgb) h2 (fun u hu=>.gd _ _ _ (fun _=>hu) (fun e=>by rw[hgb] at e;cases e)) h3
     | false=>
       rw[RI (by rw[hw,hgb];simp)];exact hK _ _ h3 (h.put h2 (.gd _ _ _ (fun e=>by rw[hgb] at e;cases e) (fun _=>rfl)))
    ·exact hk.elim
theorem od(hT:ap P T)(h:Rep E s ρ a w){ops:Array Oper}(o:Oper){KK:Act→Prop}{K:ASt→Prop}(hk:gx P T ops s o K)
  (hK:∀ s' a',K s'→Rep E s' ρ a' w→KK a') :
  if Region.wanted o (yielded ops a.tmps) then vN P o a w KK else KK (a.put o.dst undef):=by
 unfold gx at hk;split at hk
 ·rename_i neg n hc
  obtain⟨b,hb,hrun⟩:=qz hT h hc;unfold nT at hk;split at hk
  ·rename_i hg
   rw[RJ (by simp[Region.wanted,hg])];exact⟨_,fun w' hbw=>by unfold Oper.quietAt;rw[hrun w'];exact⟨rfl,rfl⟩,hK _ _ (hk.2 b hb) (h.put hk.1 (.d _ _ (.bool _)))⟩
  ·rename_i j want hg
   split at hk
   ·exact hk.elim
   ·rename_i g ha
    have hw:=fm h hg ha;cases hgb:g with
    | true=>
      rw[RJ (by rw[hw,hgb])];exact⟨_,fun w' hbw=>by unfold Oper.quietAt;rw[hrun w'];exact⟨rfl,rfl⟩,hK _ _ (hk.2 b hb) (h.put hk.1 (.gd _ _ _ (fun _=>.d _ _ (.bool _)) (fun e=>by rw[hgb] at e;cases e)))⟩
    | false=>
      rw[RI (by rw[hw,hgb];simp)];exact hK _ _ (hk.2 b hb) (h.put hk.1 (.gd _ _ _ (fun e=>by rw[hgb] at e;cases e) (fun _=>rfl)))
 ·exact vB hT h o hk hK
theorem iH(hT:ap P T)(h:Rep E s ρ a w){ops:Array Oper}(o:Oper){KK:Act→Prop}{K:ASt→Prop}(hk:gx P T ops s o K)
  (hK:∀ s' a',K s'→Rep E s' ρ a' w→KK a') :
  if Region.wanted o (yielded ops a.tmps) then o.quiet P a (fun w'=>Below w.heap.size w w') KK else KK (a.put o.dst undef):=by
 have:=od hT h o hk hK;split at this
 ·rename_i hw
  rw[RJ hw];obtain⟨v,h1,h2⟩:=this;exact⟨v,fun w' hb=>mG (fun w'' h2=>⟨h2.os.trans hb.os,h2.tape.trans hb.tape,h2.output.trans hb.output,R8 hb.size h2.size,fun k hk=>(h2.block k (SL hk hb.size)).trans (hb.block k hk)⟩) (h1 w' hb),h2⟩
 ·rename_i hw
  rw[RI hw];exact this
theorem sx(hT:ap P T){ops:Array Oper}{K:ASt→Prop}{KK:Act→Prop}(hK:∀ s' a',K s'→Rep E s' ρ a' w→KK a') :
  ∀(l:List Oper) (s:ASt) (a:Act),o7 P T ops K l s→Rep E s ρ a w→wpQuiet P ops (fun w'=>Below w.heap.size w w') KK l a
 |[],s,a,hk,h=>hK _ _ hk h
 |o::r,s,a,hk,h=>iH hT h o hk fun s' a' hs hr=>sx hT hK r s' a' hs hr
theorem wpm{P:Program}{c:Code}{a:Act}{w:World}{Q Q':Exit→Act→World→Prop}(h:c.wp P Q a w)(hq:∀ e a w,Q e a w→Q' e a w):c.wp P Q' a w:=
 fun b k cs=>let ⟨e,a',w',q,arr⟩:=h b k cs;⟨e,a',w',hq _ _ _ q,arr⟩
def ax(s s':ASt):Prop:=∀(E:Ent) (ρ:List (Option (Nat×Nat))) (a:Act) (w:World),Rep E s ρ a w→∃ ρ',Rep E s' ρ' a w
theorem ax.refl(s:ASt):ax s s:=fun _ ρ _ _ h=>⟨ρ,h⟩
theorem ax.trans{s s' s2:ASt}(h:ax s s')(h2:ax s' s2):ax s s2:=fun E ρ a w hr=>by obtain⟨ρ',hr'⟩:=h E ρ a w hr;exact h2 E ρ' a w hr'
theorem Xa{c:Code}{s s':ASt}{Q:Exit→ASt→Prop}(hs:ax s s')(h:AWP P c s' Q):AWP P c s Q:=fun E ρ a w hr=>by obtain⟨ρ',hr'⟩:=hs E ρ a w hr;exact h E ρ' a w hr'
theorem AWP.mono{c:Code}{s:ASt}{Q Q':Exit→ASt→Prop}(h:AWP P c s Q)(hq:∀ e s',Q e s'→Q' e s'):AWP P c s Q':=fun E ρ a w hr=>
 wpm (h E ρ a w hr) fun e _ _ ⟨s',ρ',h1,h2⟩=>⟨s',ρ',h1,hq e s' h2⟩
def ie(N:ASt→Prop)(Q:Exit→ASt→Prop):Exit→ASt→Prop
 |.normal,s=>N s
 |e,s=>Q e s
theorem AWP.seq{x y:Code}{s:ASt}{Q:Exit→ASt→Prop}(h:AWP P x s (ie (fun s'=>AWP P y s' Q) Q)):AWP P (.seq x y) s Q:=fun E ρ a w hr=>by
 refine wp_seq (wpm (h E ρ a w hr) fun e a' w' hh=>?_);obtain⟨s',ρ',hr',hq⟩:=hh;cases e with
 |normal=>exact hq E ρ' a' w' hr'
 |_=>exact⟨s',ρ',hr',hq⟩
theorem AWP.loop{ι:Type}{c:Code}{s:ASt}{Q:Exit→ASt→Prop}(μ:ι→Nat)(st:ι→ASt)(h0:∃ i,ax s (st i))
  (round:∀ i,AWP P c (st i) (ie (fun s'=>∃ j,μ j<μ i∧ax s' (st j)) Q)):AWP P (.loop c) s Q:=fun E ρ a w hr=>by
 have key:∀(n:Nat) (a:Act) (w:World),(∃ i ρ,μ i<n∧Rep E (st i) ρ a w)→Code.rounds P c (fun e a' w'=>∃ s' ρ',Rep E s' ρ' a' w'∧Q e s') n a w:=by
  intro n
  induction n with
  |zero=>intro a w ⟨i,_,hk,_⟩;omega
  | succ n ih=>
    intro a w ⟨i,ρ,hk,hr⟩;rw[rounds_succ];refine wpm (round i E ρ a w hr) fun e a' w' hh=>?_
    obtain⟨s',ρ',hr',hq⟩:=hh;cases e with
    | normal=>
      obtain⟨j,hj,hs⟩:=hq;obtain⟨ρ2,hr2⟩:=hs E ρ' a' w' hr';exact ih a' w' ⟨j,ρ2,by omega,hr2⟩
    |_=>exact⟨s',ρ',hr',hq⟩
 obtain⟨i,hi⟩:=h0;obtain⟨ρ',hr'⟩:=hi E ρ a w hr;exact wp_loop_rounds (μ i+1) (key (μ i+1) a w ⟨i,ρ',by omega,hr'⟩)
end
abbrev Bel(w w':World):Prop:=Below w.heap.size w w'
theorem BV(w:World):Bel w w:=⟨rfl,rfl,rfl,RP _,fun _ _=>rfl⟩
theorem ro{w w1 w2:World}(h:Bel w w1)(h2:Bel w1 w2):Bel w w2:=
 ⟨h2.os.trans h.os,h2.tape.trans h.tape,h2.output.trans h.output,R8 h.size h2.size,fun k hk=>(h2.block k (SL hk h.size)).trans (h.block k hk)⟩
theorem kH{listed:Array Bool}{i:Nat}(h:listed.getD i true=false):listed.getD i false=false:=by
 rcases UM i listed.size with h'|h'
 ·simp[h'] at h ⊢;exact h
 ·simp[Wq h'] at h
section
variable {P:Program} {ops:Array Oper} {md:Region.Mode} {Q:Exit→Act→World→Prop} {eff:Nat→Bool}
def eJ (P:Program) (md:Region.Mode) (ops:Array Oper) (Q:Exit→Act→World→Prop) (eff:Nat→Bool):Nat→Array Bool→Act→World→Prop
 |0,listed,a,w=>Region.ready md ops listed=[]∧∀ w',Bel w w'→Q .normal a w'
 |f + 1,listed,a,w=>(Region.ready md ops listed=[]→∀ w',Bel w w'→Q .normal a w')∧∀ i∈Region.ready md ops listed,
    if eff i=true then(∀ w',Bel w w'→wpOp P ops Q i (fun a' w2=>eJ P md ops Q eff f (listed.setIfInBounds i true) a' w2) a w')
    else qOp P ops (Bel w) i (fun a'=>eJ P md ops Q eff f (listed.setIfInBounds i true) a' w) a
theorem iY:∀(f:Nat) (listed:Array Bool) (a:Act) (w w':World),eJ P md ops Q eff f listed a w→Bel w w'→wpAny P md ops Q f listed a w'
 |0,_,_,_,w',h,hb=>⟨h.1,h.2 w' hb⟩
 | f + 1,listed,a,w,w',h,hb=>by
   refine⟨fun h0=>h.1 h0 w' hb,fun i hi=>?_⟩
   have:=h.2 i hi
   by_cases he:eff i=true
   ·rw[RJ he] at this
    exact Wg (fun a' w2 h'=>iY f _ a' w2 w2 h' (BV _)) (this w' hb)
   ·rw[RI he] at this
    exact wpOp_of_qOp (C:=Bel w) hb (fun a' w2 hw2 h'=>iY f _ a' w w2 h' hw2) this
def unl(listed:Array Bool)(j:Nat):Bool:=!listed.getD j true
def Ao(md:Region.Mode)(ops:Array Oper)(eff W:Nat→Bool)(listed:Array Bool)(i:Nat):Bool:=
 (List.range ops.size).all fun j=>(!(eff j&&unl listed j)||W j) &&
  (!W j||(match ops[j]? with|some oj=>oj.after.any fun e=>Region.binds md e&&(e.on==i||(W e.on&&unl listed e.on))|none=>false))
theorem qn{i:Nat}{oi:Oper}{v:Value}{W:Nat→Bool}{w:World}(hi:ops[i]?=some oi)(hsel:∀(j:Nat) (o:Oper) cs b,ops[j]?=some o→o.op≠.select cs b)(hne:eff i=false) :
  ∀ (f:Nat) (listed:Array Bool) (a:Act),
    (∀ j oj,ops[j]?=some oj→j≠i→listed.getD j true=false→(∀ e∈oj.after,Region.binds md e=true→e.on≠i)→oi.apart ops oj=true)→
    (∀ j oj,ops[j]?=some oj→eff j=true→listed.getD j true=false→W j=true)→
    (∀ j oj,ops[j]?=some oj→W j=true→∃ e∈oj.after,Region.binds md e=true∧(e.on=i∨(W e.on=true∧listed.getD e.on true=false)))→
    i∈Region.ready md ops listed→YieldsIn P ops (Bel w) oi v a→
    eJ P md ops Q eff f (listed.setIfInBounds i true) (a.put oi.dst v) w→eJ P md ops Q eff (f+1) listed a w:=by
 have key:∀(listed:Array Bool),(∀ j oj,ops[j]?=some oj→W j=true→∃ e∈oj.after,Region.binds md e=true∧(e.on=i∨(W e.on=true∧listed.getD e.on true=false)))→
   i∈Region.ready md ops listed→∀ j,j∈Region.ready md ops listed→W j=false:=by
  intro listed hW hr j hj;cases hwj:W j with
  |false=>rfl
  | true=>
    obtain⟨_,oj,hoj,hall⟩:=U7.1 hj;obtain⟨e,he,hb,h⟩:=hW j oj hoj hwj;have h1:=hall e he hb
    have h0:listed.getD e.on true=false:=by
     rcases h with h|h
     ·rw[h];exact(U7.1 hr).1
     ·exact h.2
    rw[kH h0] at h1;cases h1
 intro f
 induction f with
 | zero=>
   intro listed a _ hE hW hr hy H;refine⟨fun h=>(by rw[h] at hr;cases hr),fun j hj=>?_⟩
   by_cases hji:j=i
   ·subst hji;rw[RI (by simp[hne])];exact hy.qOp hi H
   ·have:=UB hj hji
    rw[H.1] at this;cases this
 | succ f ih=>
   intro listed a hfree hE hW hr hy H;refine⟨fun h=>(by rw[h] at hr;cases hr),fun j hj=>?_⟩
   by_cases hji:j=i
   ·subst hji;rw[RI (by simp[hne])];exact hy.qOp hi H
   ·have hwj:=key listed hW hr j hj
    obtain⟨hjun,oj,hoj,hall⟩:=U7.1 hj
    have hej:eff j=false:=by
     cases he:eff j with
     |false=>rfl
     |true=>rw[hE j oj hoj he hjun] at hwj;cases hwj
    have h1:=H.2 j (UB hj hji);rw[RI (by simp[hej])] at h1 ⊢;have hnot:∀ e∈oj.after,Region.binds md e=true→e.on≠i:=fun e he hb heq=>by have h1:=hall e he hb;have h0:=(U7.1 hr).1;rw[heq,kH h0] at h1;cases h1
    have h2:=qOp_put hoj (hfree j oj hoj hji hjun hnot) (fun cs b=>hsel i oi cs b hi) (fun cs b=>hsel j oj cs b hoj) hy h1;have hun:∀ k,k≠j→(listed.setIfInBounds j true).getD k true=listed.getD k true:=fun k hk=>WZ true (fun h=>hk h.symm)
    have hfree':∀ k ok,ops[k]?=some ok→k≠i→(listed.setIfInBounds j true).getD k true=false→
      (∀ e∈ok.after,Region.binds md e=true→e.on≠i)→oi.apart ops ok=true:=fun k ok hk hki hu hno=>by
     refine hfree k ok hk hki ?_ hno
     by_cases hjk:k=j
     ·subst hjk;exact hjun
     ·rw[hun k hjk] at hu;exact hu
    have hE':∀ k ok,ops[k]?=some ok→eff k=true→(listed.setIfInBounds j true).getD k true=false→W k=true:=fun k ok hk he hu=>by
     by_cases hjk:k=j
     ·subst hjk;rw[hej] at he;cases he
     ·exact hE k ok hk he (by rw[←hun k hjk];exact hu)
    have hW':∀ k ok,ops[k]?=some ok→W k=true→∃ e∈ok.after,Region.binds md e=true∧(e.on=i∨(W e.on=true∧(listed.setIfInBounds j true).getD e.on true=false)):=fun k ok hk hw=>by
     obtain⟨e,he,hb,h⟩:=hW k ok hk hw;refine⟨e,he,hb,?_⟩;rcases h with h|⟨h,h'⟩
     ·exact .inl h
     ·refine .inr ⟨h,?_⟩
      rw[hun e.on (fun e'=>by rw[e',hwj] at h;cases h)];exact h'
    refine W8 (fun a' h3=>ih (listed.setIfInBounds j true) a' hfree' hE' hW' (UB hr (W7 hji)) h3.1 ?_) h2;rw[T3 _ _ hji];exact h3.2
theorem EZ{C:World→Prop}{o:Oper}{v:Value}{a:Act}(h:Yields P ops o v a):YieldsIn P ops C o v a:=by
 rcases h with⟨h1,h2⟩|h
 ·exact .inl ⟨h1,fun w hw=>by unfold Oper.quietAt;rw[h2 w];exact⟨rfl,rfl⟩⟩
 ·exact .inr h
theorem JK{C:World→Prop}{j:Nat}{oi oj:Oper}{v:Value}(hj:ops[j]?=some oj)(hap:oi.apart ops oj=true)
  (hsi:∀ cs b,oi.op≠.select cs b) (hsj:∀ cs b,oj.op≠.select cs b) {K:Act→Prop} {a:Act}
  (hy:Yields P ops oi v a) (h:qOp P ops C j K (a.put oi.dst v)) :
  qOp P ops C j (fun a'=>Yields P ops oi v a'∧K (a'.put oi.dst v)) a:=by
 obtain⟨h1,h2,h3⟩:=WA hap
 have keep:∀(a:Act),Yields P ops oi v a→∀ u,Yields P ops oi v (a.put oj.dst u):=fun a hy u=>
  hy.of_same (Vw oi hsi a oj.dst u h3) (VU oi a oj.dst u h3)
 unfold qOp at *
 simp only[hj] at *
 rw[VU oj a oi.dst v h1] at h;split
 ·rename_i hw
  simp only[hw,S9] at h;obtain⟨u,hu,hn⟩:=h;refine⟨u,fun w hw'=>?_,keep a hy u,by rw[←Uf a v u h2];exact hn⟩
  have:=hu w hw';unfold Oper.quietAt at *
  rwa[Vw oj hsj a oi.dst v h1] at this
 ·rename_i hw
  simp only[hw] at h;exact⟨keep a hy _,by rw[←Uf a v undef h2];exact h⟩
theorem rT{i:Nat}{oi:Oper}{v:Value}(hi:ops[i]?=some oi)(hsel:∀(j:Nat) (o:Oper) cs b,ops[j]?=some o→o.op≠.select cs b)(hne:eff i=false)(hQ:∀ c a w,¬ Q (.panic c) a w) :
  ∀ (f:Nat) (listed:Array Bool) (a:Act) (w:World),
    (∀ j oj,ops[j]?=some oj→j≠i→listed.getD j true=false→(∀ e∈oj.after,Region.binds md e=true→e.on≠i)→oi.apart ops oj=true)→
    i∈Region.ready md ops listed→Yields P ops oi v a→
    eJ P md ops Q eff f (listed.setIfInBounds i true) (a.put oi.dst v) w→eJ P md ops Q eff (f+1) listed a w:=by
 intro f
 induction f with
 | zero=>
   intro listed a w _ hr hy H;refine⟨fun h=>(by rw[h] at hr;cases hr),fun j hj=>?_⟩
   by_cases hji:j=i
   ·subst hji;rw[RI (by simp[hne])];exact(EZ hy).qOp hi H
   ·have:=UB hj hji
    rw[H.1] at this;cases this
 | succ f ih=>
   intro listed a w hfree hr hy H;refine⟨fun h=>(by rw[h] at hr;cases hr),fun j hj=>?_⟩
   by_cases hji:j=i
   ·subst hji;rw[RI (by simp[hne])];exact(EZ hy).qOp hi H
   ·have h1:=H.2 j (UB hj hji)
    obtain⟨hjun,oj,hoj,hall⟩:=U7.1 hj;have hnot:∀ e∈oj.after,Region.binds md e=true→e.on≠i:=fun e he hb heq=>by have h1:=hall e he hb;have h0:=(U7.1 hr).1;rw[heq,kH h0] at h1;cases h1
    have hfree':∀ k ok,ops[k]?=some ok→k≠i→(listed.setIfInBounds j true).getD k true=false→
      (∀ e∈ok.after,Region.binds md e=true→e.on≠i)→oi.apart ops ok=true:=fun k ok hk hki hun hno=>by
     refine hfree k ok hk hki ?_ hno
     by_cases hjk:j=k
     ·subst hjk;exact hjun
     ·rw[WZ true hjk] at hun;exact hun
    have hap:=hfree j oj hoj hji hjun hnot;cases he:eff j with
    | true=>
      rw[RJ rfl];rw[he,RJ rfl] at h1;intro w' hb;have h2:=wpOp_put hoj hap (fun cs b=>hsel i oi cs b hi) (fun cs b=>hsel j oj cs b hoj) (fun c a w h=>absurd h (hQ c _ w)) hy (h1 w' hb);refine Wg (fun a' w2 h3=>ih (listed.setIfInBounds j true) a' w2 hfree' (UB hr (W7 hji)) h3.1 ?_) h2;rw[T3 _ _ hji];exact h3.2
    | false=>
      rw[RI (by simp)];rw[he,RI (by simp)] at h1;have h2:=JK hoj hap (fun cs b=>hsel i oi cs b hi) (fun cs b=>hsel j oj cs b hoj) hy h1;refine W8 (fun a' h3=>ih (listed.setIfInBounds j true) a' w hfree' (UB hr (W7 hji)) h3.1 ?_) h2;rw[T3 _ _ hji];exact h3.2
theorem tr{W:Nat→Bool}{listed:Array Bool}{i:Nat}(h:Ao md ops eff W listed i=true) :
  (∀ j oj,ops[j]?=some oj→eff j=true→listed.getD j true=false→W j=true)∧
  (∀ j oj,ops[j]?=some oj→W j=true→∃ e∈oj.after,Region.binds md e=true∧(e.on=i∨(W e.on=true∧listed.getD e.on true=false))):=by
 have hj:∀ j oj,ops[j]?=some oj→j∈List.range ops.size:=fun j oj ho=>Un.2 (Tr.1 ho).1
 refine⟨fun j oj ho he hu=>?_,fun j oj ho hw=>?_⟩
 ·have:=S6.1 h j (hj j oj ho)
  simp only[RU,SQ,SY,he,unl,hu] at this;simpa using this.1
 ·have:=S6.1 h j (hj j oj ho)
  simp only[RU,SQ,SY,ho,hw] at this
  have:=this.2;simp only[VV,Wh,Array.any_eq_true',RU,SQ,R1] at this;obtain⟨e,he,hb,h⟩:=this;refine⟨e,he,hb,?_⟩;rcases h with h|⟨h,h'⟩
  ·exact .inl h
  ·exact .inr ⟨h,by simpa[unl] using h'⟩
def qc(md:Region.Mode)(ops:Array Oper)(listed:Array Bool)(i:Nat):Array Bool:=
 (List.range ops.size).foldl (fun W j=>W.setIfInBounds j (unl listed j&&(match ops[j]? with|some oj=>oj.after.any fun e=>Region.binds md e&&(e.on==i||W.getD e.on false)|none=>false))) (Array.replicate ops.size false)
def ES(op:Op):Bool:=ou op&&!JD op
def ph(o:Oper):Bool:=ES o.op
def nK(ops:Array Oper)(k:Nat):Bool:=match ops[k]? with|some o=>ph o|none=>false
def ne(md:Region.Mode)(ops:Array Oper)(eff:Nat→Bool):List Nat→Array Bool→Bool
 |[],listed=>(Region.ready md ops listed).isEmpty
 | k :: ks,listed=>(bif eff k then decide (Region.ready md ops listed=[k])
     else(Region.ready md ops listed).contains k&&Region.free md ops listed k&&(nK ops k||Ao md ops eff (fun j=>(qc md ops listed k).getD j false) listed k)) &&
   ne md ops eff ks (listed.setIfInBounds k true)
def eh:Op→Bool
 |.call { callee:=.value _,.. }=>true
 |o=>!ou o
def dE(ops:Array Oper)(k:Nat):Bool:=match ops[k]? with|some o=>eh o.op|none=>true
def EN(ops:Array Oper)(ks:List Nat):Bool:=Region.noSelect ops&&ne .any ops (dE ops) ks (Array.replicate ops.size false)
def HN(ops:Array Oper):Bool:=EN ops (List.range ops.size)
def yY(ops:Array Oper):List Nat:=(List.range ops.size).filter (fun k=>!dE ops k)++(List.range ops.size).filter (dE ops)
def drawE(ops:Array Oper):Bool:=EN ops (yY ops)
def jl(P:Program)(T:TypeId→TI)(ops:Array Oper)(K:ASt→Prop):List Oper→ASt→Prop
 |[],s=>K s
 |o::r,s=>bif eh o.op then m5 P T ops s o (jl P T ops K r) else gx P T ops s o (jl P T ops K r)
end
section
variable {P:Program} {T:TypeId→TI} {E:Ent} {s:ASt} {ρ:List (Option (Nat×Nat))} {a:Act} {w:World}
theorem pC(hT:ap P T){ops:Array Oper}{o:Oper}{K:ASt→Prop}(hr:Rep E s ρ a w)(hs:ph o=true)(h:gx P T ops s o K) :
  ∃ u s',Yields P ops o u a∧K s'∧Rep E s' ρ (a.put o.dst u) w:=by
 unfold ph ES at hs;rw[RU,SY] at hs;obtain⟨hp,hl⟩:=hs;unfold gx at h;split at h
 ·rename_i neg n hc
  obtain⟨b,hb,hrun⟩:=qz hT hr hc;unfold nT at h;split at h
  ·rename_i hg
   exact⟨_,_,.inl ⟨by simp[Region.wanted,hg],fun w'=>hrun w'⟩,h.2 b hb,hr.put h.1 (.d _ _ (.bool _))⟩
  ·rename_i j want hg
   split at h
   ·exact h.elim
   ·rename_i g ha
    have hw:=fm hr hg ha;cases hgb:g with
    |true=>exact⟨_,_,.inl ⟨by rw[hw,hgb],fun w'=>hrun w'⟩,h.2 b hb,hr.put h.1 (.gd _ _ _ (fun _=>.d _ _ (.bool _)) (fun e=>by rw[hgb] at e;cases e))⟩
    |false=>exact⟨undef,_,.inr ⟨by rw[hw,hgb],rfl⟩,h.2 b hb,hr.put h.1 (.gd _ _ _ (fun e=>by rw[hgb] at e;cases e) (fun _=>rfl))⟩
 ·simp only[pL,hp,S9] at h
  split at h
  ·rename_i hg
   obtain⟨h1,h2,h3⟩:=h;obtain⟨u,hu,hrun⟩:=vp hT hr o hl h1;exact⟨u,_,.inl ⟨by simp[Region.wanted,hg],hrun⟩,h3,hr.put h2 hu⟩
  ·rename_i j want hg
   split at h
   ·exact h.elim
   ·rename_i g ha
    have hw:=fm hr hg ha;obtain⟨h1,h2,h3⟩:=h;cases hgb:g with
    | true=>
      obtain⟨u,hu,hrun⟩:=vp hT hr o hl (h1 hgb);exact⟨u,_,.inl ⟨by rw[hw,hgb],hrun⟩,h3,hr.put h2 (.gd _ _ _ (fun _=>hu) (fun e=>by rw[hgb] at e;cases e))⟩
    |false=>exact⟨undef,_,.inr ⟨by rw[hw,hgb],rfl⟩,h3,hr.put h2 (.gd _ _ _ (fun e=>by rw[hgb] at e;cases e) (fun _=>rfl))⟩
theorem jR(hT:ap P T){ops:Array Oper}{Q:Exit→Act→World→Prop}{K:ASt→Prop}(hs:Region.noSelect ops=true)(hQ:∀ c a w,¬ Q (.panic c) a w)(hK:∀ s' ρ' a' w',K s'→Rep E s' ρ' a' w'→Q .normal a' w') :
  ∀ (l:List Oper) (ks:List Nat) (listed:Array Bool) (s:ASt) (ρ:List (Option (Nat×Nat))) (a:Act) (w:World),ks.map (fun k=>ops[k]?)=l.map some→ne .any ops (dE ops) ks listed=true→
    jl P T ops K l s→Rep E s ρ a w→eJ P .any ops Q (dE ops) l.length listed a w
 | [],ks,listed,s,ρ,a,w,hl,hB,h,hr=>by
   have:ks=[]:=by simpa using hl
   subst this;exact⟨by simpa[ne] using hB,fun w' hb=>hK _ _ _ _ h (hr.below hb)⟩
 |o::l,[],listed,s,ρ,a,w,hl,hB,h,hr=>by simp at hl
 | o :: l,k::ks,listed,s,ρ,a,w,hl,hB,h,hr=>by
   simp only[TL,Sk] at hl;obtain⟨h0,hl'⟩:=hl;simp only[RQ,ne,RU] at hB;obtain⟨hB1,hB2⟩:=hB;have he:dE ops k=eh o.op:=by simp[dE,h0]
   simp only[jl] at h;cases hf:eh o.op with
   | true=>
     rw[he,hf] at hB1;simp only[hf,Vx] at h;simp only[Vx,RN] at hB1;refine⟨fun h1=>(by rw[hB1] at h1;cases h1),fun i hi=>?_⟩;rw[hB1] at hi;have hik:i=k:=by simpa using hi
     subst hik;rw[RJ (by rw[he,hf])];intro w' hb;unfold wpOp;simp only[h0];exact jP hT (hr.below hb) o h fun s' ρ' a' w2 hs' hr'=>jR hT hs hQ hK l ks _ s' ρ' a' w2 hl' hB2 hs' hr'
   | false=>
     rw[he,hf] at hB1;simp only[hf,U0] at h;simp only[U0,RU] at hB1;obtain⟨⟨hB3,hB4⟩,hB5⟩:=hB1;cases hst:ph o with
     | true=>
       obtain⟨u,s',hy,g5,hr'⟩:=pC hT hr hst h;exact rT h0 (T6 hs) (by rw[he,hf]) hQ l.length listed a w (UE h0 hB4) (by simpa using hB3) hy (jR hT hs hQ hK l ks _ _ ρ _ w hl' hB2 g5 hr')
     |false=>
     have hB5:Ao .any ops (dE ops) (fun j=>(qc .any ops listed k).getD j false) listed k=true:=by
      have:nK ops k=false:=by simp[nK,h0,hst]
      simpa[this] using hB5
     have hq:=iH hT hr (ops:=ops) o (KK:=fun a'=>eJ P .any ops Q (dE ops) l.length (listed.setIfInBounds k true) a' w) h
      fun s' a' hs' hr'=>jR hT hs hQ hK l ks _ s' ρ a' w hl' hB2 hs' hr'
     have hq':qOp P ops (Bel w) k (fun a'=>eJ P .any ops Q (dE ops) l.length (listed.setIfInBounds k true) a' w) a:=by unfold qOp;simp only[h0];exact hq
     obtain⟨v,hy,hKK⟩:=yieldsIn_of_qOp h0 hq';obtain⟨hW1,hW2⟩:=tr hB5;exact qn h0 (T6 hs) (by rw[he,hf]) l.length listed a (UE h0 hB4) hW1 hW2 (by simpa using hB3) hy hKK
theorem Xz{Q:Exit→ASt→Prop}{id:Nat}{l l':List Oper}(ks:List Nat)(hm:P.follows .mixedOrders=true)(hT:ap P T)(hB:EN l.toArray ks=true)(hks:ks.map (fun k=>l.toArray[k]?)=l'.map some)(hl:l'.length=l.length)
  (h:∀ K:ASt→Prop,(∀ s',Q .normal s'→K s')→jl P T l.toArray K l' s):AWP P (.region id l.toArray true) s Q:=fun E ρ a w hr=>by
 simp only[EN,RU] at hB;refine wpm (WU (Q:=fun e a' w'=>(∀ c,e≠.panic c)∧∃ s' ρ',Rep E s' ρ' a' w'∧Q e s') hm (iY (eff:=dE l.toArray) _ _ a w _ ?_ ⟨rfl,rfl,rfl,RP _,fun _ _=>rfl⟩)) fun _ _ _ h=>h.2
 have:=jR (E:=E) hT (Q:=fun e a' w'=>(∀ c,e≠.panic c)∧∃ s' ρ',Rep E s' ρ' a' w'∧Q e s') hB.1 (fun c a w h=>h.1 c rfl) (fun s' ρ' a' w' hs hr'=>⟨by simp,s',ρ',hr',hs⟩) l' ks (Array.replicate l.toArray.size false) s ρ a w hks hB.2
  (h _ fun _ hq=>hq) hr
 simpa[hl] using this
theorem vU(l:List Oper):(List.range l.toArray.size).map (fun k=>l.toArray[k]?)=l.map some:=by
 apply SR;intro j
 by_cases hj:j<l.length
 ·simp[hj]
 ·simp[hj]
theorem XQ{Q:Exit→ASt→Prop}{id:Nat}{l:List Oper}(hm:P.follows .mixedOrders=true)(hT:ap P T)(hB:HN l.toArray=true)
  (h:∀ K:ASt→Prop,(∀ s',Q .normal s'→K s')→jl P T l.toArray K l s):AWP P (.region id l.toArray true) s Q:=
 Xz _ hm hT hB (vU l) rfl h
def uq(l:List Oper):List Oper:=l.filter (fun o=>!eh o.op)++l.filter (fun o=>eh o.op)
theorem oG(p:Oper→Bool)(l:List Oper):∀(m:List Oper) (o:Nat),(∀ j,m[j]?=l.toArray[o+j]?)→((List.range' o m.length).filter (fun k=>match l.toArray[k]? with|some x=>p x|none=>false)).map (fun k=>l.toArray[k]?)=(m.filter p).map some
 |[],o,_=>rfl
 | x :: m,o,h=>by
   have h0:=h 0;simp only[We,S8] at h0;have ih:=oG p l m (o+1) fun j=>by have:=h (j+1);simpa[SX,TS 1 j] using this
   simp only[RQ,List.range'_succ,List.filter_cons,←h0];cases p x
   ·simpa using ih
   ·simp only[S9,TL,←h0]
    rw[ih]
theorem XM{Q:Exit→ASt→Prop}{id:Nat}{l:List Oper}(hm:P.follows .mixedOrders=true)(hT:ap P T)(hB:drawE l.toArray=true)
  (h:∀ K:ASt→Prop,(∀ s',Q .normal s'→K s')→jl P T l.toArray K (uq l) s):AWP P (.region id l.toArray true) s Q:=by
 have e:∀ p:Oper→Bool,((List.range l.toArray.size).filter (fun k=>match l.toArray[k]? with|some x=>p x|none=>false)).map (fun k=>l.toArray[k]?)=(l.filter p).map some:=fun p=>by
  have:=oG p l l 0 fun j=>by simp
  rw[WG];simpa using this
 have e1:∀ k,k∈List.range l.toArray.size→(!dE l.toArray k)=(match l.toArray[k]? with|some x=>!eh x.op|none=>false):=fun k hk=>by
  have hk':k<l.length:=by simpa using hk
  simp[dE,hk']
 have e2:∀ k,k∈List.range l.toArray.size→dE l.toArray k=(match l.toArray[k]? with|some x=>eh x.op|none=>false):=fun k hk=>by
  have hk':k<l.length:=by simpa using hk
  simp[dE,hk']
 refine Xz (yY l.toArray) hm hT hB (l':=uq l) ?_ ?_ h
 ·rw[yY,uq,Sn,Sn,Vj e1,Vj e2,e,e]
 ·rw[uq,RL,←T9,←T9,TS]
  have:=Vk (fun o:Oper=>eh o.op) (l:=l);simpa using this.symm
inductive XT where
 |done
 |take (k:Nat) (p:XT)
 |fork (k1:Nat) (p1:XT) (k2:Nat) (p2:XT)
 |forks (k1:Nat) (p1:XT) (k2:Nat) (p2:XT) (k3:Nat) (p3:XT)
def XS:List Nat→XT→XT
 |[],p=>p
 |k::ks,p=>.take k (XS ks p)
def fx (ops:Array Oper):XT→Nat→Array Bool→Bool
 |.done,_,listed=>(Region.ready .any ops listed).isEmpty
 | .take k p,f+1,listed=>(bif dE ops k then decide (Region.ready .any ops listed=[k])
    else(Region.ready .any ops listed).contains k&&Region.free .any ops listed k&&(nK ops k||Ao .any ops (dE ops) (fun j=>(qc .any ops listed k).getD j false) listed k)) &&
   fx ops p f (listed.setIfInBounds k true)
 |.fork k1 p1 k2 p2,f+1,listed=>decide (Region.ready .any ops listed=[k1,k2])&&fx ops p1 f (listed.setIfInBounds k1 true)&&fx ops p2 f (listed.setIfInBounds k2 true)
 |.forks k1 p1 k2 p2 k3 p3,f+1,listed=>decide (Region.ready .any ops listed=[k1,k2,k3])&&fx ops p1 f (listed.setIfInBounds k1 true)&&fx ops p2 f (listed.setIfInBounds k2 true)&&fx ops p3 f (listed.setIfInBounds k3 true)
 |_,0,_=>false
def E5(ops:Array Oper)(p:XT):Bool:=Region.noSelect ops&&fx ops p ops.size (Array.replicate ops.size false)
def fy(P:Program)(T:TypeId→TI)(ops:Array Oper)(s:ASt)(o:Option Oper)(K:ASt→Prop):Prop:=
 match o with
 |some o=>bif eh o.op then m5 P T ops s o K else gx P T ops s o K
 |none=>False
def fD(P:Program)(T:TypeId→TI)(ops:Array Oper)(K:ASt→Prop):XT→ASt→Prop
 |.done,s=>K s
 |.take k p,s=>fy P T ops s ops[k]? (fD P T ops K p)
 |.fork k1 p1 k2 p2,s=>fy P T ops s ops[k1]? (fD P T ops K p1)∧fy P T ops s ops[k2]? (fD P T ops K p2)
 |.forks k1 p1 k2 p2 k3 p3,s=>fy P T ops s ops[k1]? (fD P T ops K p1)∧fy P T ops s ops[k2]? (fD P T ops K p2)∧fy P T ops s ops[k3]? (fD P T ops K p3)
theorem ff(hT:ap P T){ops:Array Oper}{Q:Exit→Act→World→Prop}{K:ASt→Prop}{f k:Nat}{listed:Array Bool}(hr:Rep E s ρ a w)(h:fy P T ops s ops[k]? K)
  (hK:∀ s' ρ' a' w',K s'→Rep E s' ρ' a' w'→eJ P .any ops Q (dE ops) f (listed.setIfInBounds k true) a' w') :
  if dE ops k=true then(∀ w',Bel w w'→wpOp P ops Q k (fun a' w2=>eJ P .any ops Q (dE ops) f (listed.setIfInBounds k true) a' w2) a w')
   else qOp P ops (Bel w) k (fun a'=>eJ P .any ops Q (dE ops) f (listed.setIfInBounds k true) a' w) a:=by
 cases h0:ops[k]? with
 |none=>rw[h0] at h;exact h.elim
 | some o=>
   rw[h0] at h;have he:dE ops k=eh o.op:=by simp[dE,h0]
   simp only[fy] at h;cases hf:eh o.op with
   | true=>
     rw[RJ (by rw[he,hf])];simp only[hf,Vx] at h;intro w' hb;unfold wpOp;simp only[h0];exact jP hT (hr.below hb) o h fun s' ρ' a' w2 hs' hr'=>hK s' ρ' a' w2 hs' hr'
   | false=>
     rw[RI (by rw[he,hf];simp)];simp only[hf,U0] at h
     have hq:=iH hT hr (ops:=ops) o (KK:=fun a'=>eJ P .any ops Q (dE ops) f (listed.setIfInBounds k true) a' w) h
      fun s' a' hs' hr'=>hK s' ρ a' w hs' hr'
     unfold qOp;simp only[h0];exact hq
theorem dG(hT:ap P T){ops:Array Oper}{Q:Exit→Act→World→Prop}{K:ASt→Prop}(hs:Region.noSelect ops=true)(hQ:∀ c a w,¬ Q (.panic c) a w)(hK:∀ s' ρ' a' w',K s'→Rep E s' ρ' a' w'→Q .normal a' w') :
  ∀ (p:XT) (f:Nat) (listed:Array Bool) (s:ASt) (ρ:List (Option (Nat×Nat))) (a:Act) (w:World),fx ops p f listed=true→
    fD P T ops K p s→Rep E s ρ a w→eJ P .any ops Q (dE ops) f listed a w
 |.done,0,listed,s,ρ,a,w,hB,h,hr=>⟨by simpa[fx] using hB,fun w' hb=>hK _ _ _ _ h (hr.below hb)⟩
 | .done,f+1,listed,s,ρ,a,w,hB,h,hr=>by
   have h0:Region.ready .any ops listed=[]:=by simpa[fx] using hB
   exact⟨fun _ w' hb=>hK _ _ _ _ h (hr.below hb),fun i hi=>by rw[h0] at hi;cases hi⟩
 |.take k p,0,listed,s,ρ,a,w,hB,h,hr=>by simp[fx] at hB
 |.fork k1 p1 k2 p2,0,listed,s,ρ,a,w,hB,h,hr=>by simp[fx] at hB
 |.forks k1 p1 k2 p2 k3 p3,0,listed,s,ρ,a,w,hB,h,hr=>by simp[fx] at hB
 | .forks k1 p1 k2 p2 k3 p3,f+1,listed,s,ρ,a,w,hB,h,hr=>by
   simp only[fx,RU,RN] at hB;obtain⟨⟨⟨hB0,hB1⟩,hB2⟩,hB3⟩:=hB;refine⟨fun h1=>(by rw[hB0] at h1;cases h1),fun i hi=>?_⟩;rw[hB0] at hi;simp only[RW,R6,Ua] at hi;rcases hi with rfl|rfl|rfl
   ·exact ff hT hr h.1 fun s' ρ' a' w' hs' hr'=>dG hT hs hQ hK p1 f _ s' ρ' a' w' hB1 hs' hr'
   ·exact ff hT hr h.2.1 fun s' ρ' a' w' hs' hr'=>dG hT hs hQ hK p2 f _ s' ρ' a' w' hB2 hs' hr'
   ·exact ff hT hr h.2.2 fun s' ρ' a' w' hs' hr'=>dG hT hs hQ hK p3 f _ s' ρ' a' w' hB3 hs' hr'
 | .fork k1 p1 k2 p2,f+1,listed,s,ρ,a,w,hB,h,hr=>by
   simp only[fx,RU,RN] at hB;obtain⟨⟨hB0,hB1⟩,hB2⟩:=hB;refine⟨fun h1=>(by rw[hB0] at h1;cases h1),fun i hi=>?_⟩;rw[hB0] at hi;simp only[RW,R6,Ua] at hi;rcases hi with rfl|rfl
   ·exact ff hT hr h.1 fun s' ρ' a' w' hs' hr'=>dG hT hs hQ hK p1 f _ s' ρ' a' w' hB1 hs' hr'
   ·exact ff hT hr h.2 fun s' ρ' a' w' hs' hr'=>dG hT hs hQ hK p2 f _ s' ρ' a' w' hB2 hs' hr'
 | .take k p,f+1,listed,s,ρ,a,w,hB,h,hr=>by
   simp only[fx,RU] at hB;obtain⟨hB1,hB2⟩:=hB;simp only[fD] at h;cases h0:ops[k]? with
   |none=>rw[h0] at h;exact h.elim
   |some o=>
   rw[h0] at h;simp only[fy] at h;have he:dE ops k=eh o.op:=by simp[dE,h0]
   cases hf:eh o.op with
   | true=>
     rw[he,hf] at hB1;simp only[Vx,RN] at hB1;refine⟨fun h1=>(by rw[hB1] at h1;cases h1),fun i hi=>?_⟩;rw[hB1] at hi;have hik:i=k:=by simpa using hi
     subst hik;exact ff hT hr (by rw[h0];exact h) fun s' ρ' a' w' hs' hr'=>dG hT hs hQ hK p f _ s' ρ' a' w' hB2 hs' hr'
   | false=>
     rw[he,hf] at hB1;simp only[hf,U0] at h;simp only[U0,RU] at hB1;obtain⟨⟨hB3,hB4⟩,hB5⟩:=hB1;cases hst:ph o with
     | true=>
       obtain⟨u,s',hy,g5,hr'⟩:=pC hT hr hst h;exact rT h0 (T6 hs) (by rw[he,hf]) hQ f listed a w (UE h0 hB4) (by simpa using hB3) hy (dG hT hs hQ hK p f _ _ ρ _ w hB2 g5 hr')
     |false=>
     have hB5:Ao .any ops (dE ops) (fun j=>(qc .any ops listed k).getD j false) listed k=true:=by
      have:nK ops k=false:=by simp[nK,h0,hst]
      simpa[this] using hB5
     have hq:=iH hT hr (ops:=ops) o (KK:=fun a'=>eJ P .any ops Q (dE ops) f (listed.setIfInBounds k true) a' w) h
      fun s' a' hs' hr'=>dG hT hs hQ hK p f _ s' ρ a' w hB2 hs' hr'
     have hq':qOp P ops (Bel w) k (fun a'=>eJ P .any ops Q (dE ops) f (listed.setIfInBounds k true) a' w) a:=by unfold qOp;simp only[h0];exact hq
     obtain⟨v,hy,hKK⟩:=yieldsIn_of_qOp h0 hq';obtain⟨hW1,hW2⟩:=tr hB5;exact qn h0 (T6 hs) (by rw[he,hf]) f listed a (UE h0 hB4) hW1 hW2 (by simpa using hB3) hy hKK
theorem XD{Q:Exit→ASt→Prop}{id:Nat}{ops:Array Oper}(p:XT)(hm:P.follows .mixedOrders=true)(hT:ap P T)(hB:E5 ops p=true)
  (h:∀ K:ASt→Prop,(∀ s',Q .normal s'→K s')→fD P T ops K p s):AWP P (.region id ops true) s Q:=fun E ρ a w hr=>by
 simp only[E5,RU] at hB;refine wpm (WU (Q:=fun e a' w'=>(∀ c,e≠.panic c)∧∃ s' ρ',Rep E s' ρ' a' w'∧Q e s') hm (iY (eff:=dE ops) _ _ a w _ ?_ ⟨rfl,rfl,rfl,RP _,fun _ _=>rfl⟩)) fun _ _ _ h=>h.2
 exact dG (E:=E) hT (Q:=fun e a' w'=>(∀ c,e≠.panic c)∧∃ s' ρ',Rep E s' ρ' a' w'∧Q e s') hB.1 (fun c a w h=>h.1 c rfl) (fun s' ρ' a' w' hs hr'=>⟨by simp,s',ρ',hr',hs⟩) p ops.size (Array.replicate ops.size false) s ρ a w hB.2
  (h _ fun _ hq=>hq) hr
end
section
variable {P:Program} {ops:Array Oper} {md:Region.Mode} {Q:Exit→Act→World→Prop} {eff grow:Nat→Bool}
def mi (P:Program) (md:Region.Mode) (ops:Array Oper) (Q:Exit→Act→World→Prop) (eff grow:Nat→Bool):Nat→Array Bool→Act→World→Prop
 |0,listed,a,w=>Region.ready md ops listed=[]∧∀ w',Bel w w'→Q .normal a w'
 |f + 1,listed,a,w=>(Region.ready md ops listed=[]→∀ w',Bel w w'→Q .normal a w')∧∀ i∈Region.ready md ops listed,
    if eff i=true then(∀ w',Bel w w'→wpOp P ops Q i (fun a' w2=>(grow i=true→Bel w' w2)∧mi P md ops Q eff grow f (listed.setIfInBounds i true) a' w2) a w')
    else qOp P ops (Bel w) i (fun a'=>mi P md ops Q eff grow f (listed.setIfInBounds i true) a' w) a
theorem nb:∀(f:Nat) (listed:Array Bool) (a:Act) (w:World),mi P md ops Q eff grow f listed a w→eJ P md ops Q eff f listed a w
 |0,_,_,_,h=>h
 | f + 1,listed,a,w,h=>by
   refine⟨h.1,fun i hi=>?_⟩
   have:=h.2 i hi
   by_cases he:eff i=true
   ·rw[RJ he] at this ⊢
    exact fun w' hb=>Wg (fun a' w2 h'=>nb f _ a' w2 h'.2) (this w' hb)
   ·rw[RI he] at this ⊢
    exact W8 (fun a' h'=>nb f _ a' w h') this
def cR(P:Program)(ops:Array Oper)(w0:World)(o:Oper)(v:Value)(a:Act):Prop:=
 (Region.wanted o (yielded ops a.tmps)=true∧∀ w,Bel w0 w→o.quietAt P a (Bel w) w v)∨(Region.wanted o (yielded ops a.tmps)=false∧v=undef)
theorem cR.later{w0 w1:World}{o:Oper}{v:Value}{a:Act}(h:cR P ops w0 o v a)(hb:Bel w0 w1):cR P ops w1 o v a:=
 h.imp (fun⟨h1,h2⟩=>⟨h1,fun w hw=>h2 w (ro hb hw)⟩) id
theorem cR.inn{w0:World}{o:Oper}{v:Value}{a:Act}(h:cR P ops w0 o v a):YieldsIn P ops (Bel w0) o v a:=
 h.imp (fun⟨h1,h2⟩=>⟨h1,fun w hw=>mG (fun w' hw'=>ro hw hw') (h2 w hw)⟩) id
theorem cR.of_same{w0:World}{o:Oper}{v:Value}{a a':Act}(hy:cR P ops w0 o v a)(he:execOp a'.eval o=execOp a.eval o)
  (hw:Region.wanted o (yielded ops a'.tmps)=Region.wanted o (yielded ops a.tmps)):cR P ops w0 o v a':=by
 unfold cR Oper.quietAt at *
 rw[he,hw];exact hy
theorem KG{C:World→Prop}{w0:World}{j:Nat}{oi oj:Oper}{v:Value}(hj:ops[j]?=some oj)(hap:oi.apart ops oj=true)
  (hsi:∀ cs b,oi.op≠.select cs b) (hsj:∀ cs b,oj.op≠.select cs b) {K:Act→Prop} {a:Act}
  (hy:cR P ops w0 oi v a) (h:qOp P ops C j K (a.put oi.dst v)) :
  qOp P ops C j (fun a'=>cR P ops w0 oi v a'∧K (a'.put oi.dst v)) a:=by
 obtain⟨h1,h2,h3⟩:=WA hap
 have keep:∀(a:Act),cR P ops w0 oi v a→∀ u,cR P ops w0 oi v (a.put oj.dst u):=fun a hy u=>
  hy.of_same (Vw oi hsi a oj.dst u h3) (VU oi a oj.dst u h3)
 unfold qOp at *
 simp only[hj] at *
 rw[VU oj a oi.dst v h1] at h;split
 ·rename_i hw
  simp only[hw,S9] at h;obtain⟨u,hu,hn⟩:=h;refine⟨u,fun w hw'=>?_,keep a hy u,by rw[←Uf a v u h2];exact hn⟩
  have:=hu w hw';unfold Oper.quietAt at *
  rwa[Vw oj hsj a oi.dst v h1] at this
 ·rename_i hw
  simp only[hw] at h;exact⟨keep a hy _,by rw[←Uf a v undef h2];exact h⟩
theorem FZ{w0:World}{j:Nat}{oi oj:Oper}{v:Value}(hj:ops[j]?=some oj)(hap:oi.apart ops oj=true)
  (hsi:∀ cs b,oi.op≠.select cs b) (hsj:∀ cs b,oj.op≠.select cs b)
  (hQ:∀ c a w,¬ Q (.panic c) a w) {K:Act→World→Prop} {a:Act} {w:World}
  (hy:cR P ops w0 oi v a) (h:wpOp P ops Q j K (a.put oi.dst v) w) :
  wpOp P ops Q j (fun a' w'=>cR P ops w0 oi v a'∧K (a'.put oi.dst v) w') a w:=by
 obtain⟨h1,h2,h3⟩:=WA hap
 have keep:∀(a:Act),cR P ops w0 oi v a→∀ u,cR P ops w0 oi v (a.put oj.dst u):=fun a hy u=>
  hy.of_same (Vw oi hsi a oj.dst u h3) (VU oi a oj.dst u h3)
 have keepD:∀ d,cR P ops w0 oi v { a with defers:=d::a.defers }:=fun d=>hy.of_same rfl rfl
 unfold wpOp at *
 simp only[hj] at *
 rw[VU oj a oi.dst v h1] at h;split
 ·rename_i hw
  simp only[hw,S9] at h;rcases h with h|⟨hasks,hlets⟩
  case inr=>exact .inr ⟨by unfold Oper.asks at *;rw[Vw oj hsj a oi.dst v h1] at hasks;exact hasks,hlets⟩
  refine .inl ?_;unfold Oper.wp at *
  rw[Vw oj hsj a oi.dst v h1] at h;generalize (execOp a.eval oj).run P w=r at *
  cases r with
  | ok n w'=>
    cases n<;>simp only[Oper.upon] at h ⊢
    case value u=>exact⟨keep a hy u,by rw[←Uf a v u h2];exact h⟩
    case skip=>exact⟨keep a hy _,by rw[←Uf a v undef h2];exact h⟩
    case defer d=>
     refine⟨keep _ (keepD d) _,?_⟩;rw[←Uf _ v undef h2,←Act.put_defers];exact h
    case enter f args=>
     refine Calls.mono h fun e w'' he=>?_
     cases e with
     |returned u=>exact⟨keep a hy u,by rw[←Uf a v u h2];exact he⟩
     |panicked c=>exact(hQ _ _ _ he).elim
     |outgrown=>exact he
    case row row args=>exact Rows.mono h fun u w'' he=>⟨keep a hy u,by rw[←Uf a v u h2];exact he⟩
  | halt x w'=>
    cases x<;>simp only[Oper.upon] at h ⊢
    case panic u=>exact(hQ _ _ _ h).elim
 ·rename_i hw
  simp only[hw] at h;exact⟨keep a hy _,by rw[←Uf a v undef h2];exact h⟩
theorem wn{listed:Array Bool}{j:Nat}:(listed.setIfInBounds j true).getD j true=true:=by
 rcases UM j listed.size with h|h
 ·simp[h]
 ·simp[h]
theorem pw{i:Nat}{oi:Oper}{v:Value}{W:Nat→Bool}(hi:ops[i]?=some oi)(hsel:∀(j:Nat) (o:Oper) cs b,ops[j]?=some o→o.op≠.select cs b)(hne:eff i=false)(hQ:∀ c a w,¬ Q (.panic c) a w) :
  ∀ (f:Nat) (listed:Array Bool) (a:Act) (w:World),
    (∀ j oj,ops[j]?=some oj→j≠i→listed.getD j true=false→(∀ e∈oj.after,Region.binds md e=true→e.on≠i)→oi.apart ops oj=true)→
    (∀ j oj,ops[j]?=some oj→eff j=true→listed.getD j true=false→W j=true∨grow j=true)→
    (∀ j oj,ops[j]?=some oj→W j=true→∃ e∈oj.after,Region.binds md e=true∧(e.on=i∨(W e.on=true∧listed.getD e.on true=false)))→
    i∈Region.ready md ops listed→cR P ops w oi v a→
    mi P md ops Q eff grow f (listed.setIfInBounds i true) (a.put oi.dst v) w→mi P md ops Q eff grow (f+1) listed a w:=by
 have key:∀(listed:Array Bool),(∀ j oj,ops[j]?=some oj→W j=true→∃ e∈oj.after,Region.binds md e=true∧(e.on=i∨(W e.on=true∧listed.getD e.on true=false)))→
   i∈Region.ready md ops listed→∀ j,j∈Region.ready md ops listed→W j=false:=by
  intro listed hW hr j hj;cases hwj:W j with
  |false=>rfl
  | true=>
    obtain⟨_,oj,hoj,hall⟩:=U7.1 hj;obtain⟨e,he,hb,h⟩:=hW j oj hoj hwj;have h1:=hall e he hb
    have h0:listed.getD e.on true=false:=by
     rcases h with h|h
     ·rw[h];exact(U7.1 hr).1
     ·exact h.2
    rw[kH h0] at h1;cases h1
 intro f
 induction f with
 | zero=>
   intro listed a w _ hE hW hr hy H;refine⟨fun h=>(by rw[h] at hr;cases hr),fun j hj=>?_⟩
   by_cases hji:j=i
   ·subst hji;rw[RI (by simp[hne])];exact hy.inn.qOp hi H
   ·have:=UB hj hji
    rw[H.1] at this;cases this
 | succ f ih=>
   intro listed a w hfree hE hW hr hy H;refine⟨fun h=>(by rw[h] at hr;cases hr),fun j hj=>?_⟩
   by_cases hji:j=i
   ·subst hji;rw[RI (by simp[hne])];exact hy.inn.qOp hi H
   ·have hwj:=key listed hW hr j hj
    obtain⟨hjun,oj,hoj,hall⟩:=U7.1 hj;have h1:=H.2 j (UB hj hji);have hnot:∀ e∈oj.after,Region.binds md e=true→e.on≠i:=fun e he hb heq=>by have h1:=hall e he hb;have h0:=(U7.1 hr).1;rw[heq,kH h0] at h1;cases h1
    have hun:∀ k,k≠j→(listed.setIfInBounds j true).getD k true=listed.getD k true:=fun k hk=>WZ true (fun h=>hk h.symm)
    have hfree':∀ k ok,ops[k]?=some ok→k≠i→(listed.setIfInBounds j true).getD k true=false→
      (∀ e∈ok.after,Region.binds md e=true→e.on≠i)→oi.apart ops ok=true:=fun k ok hk hki hu hno=>by
     refine hfree k ok hk hki ?_ hno
     by_cases hjk:k=j
     ·subst hjk;exact hjun
     ·rw[hun k hjk] at hu;exact hu
    have hE':∀ k ok,ops[k]?=some ok→eff k=true→(listed.setIfInBounds j true).getD k true=false→W k=true∨grow k=true:=fun k ok hk he hu=>by
     by_cases hjk:k=j
     ·subst hjk;rw[wn] at hu;cases hu
     ·exact hE k ok hk he (by rw[←hun k hjk];exact hu)
    have hW':∀ k ok,ops[k]?=some ok→W k=true→∃ e∈ok.after,Region.binds md e=true∧(e.on=i∨(W e.on=true∧(listed.setIfInBounds j true).getD e.on true=false)):=fun k ok hk hw=>by
     obtain⟨e,he,hb,h⟩:=hW k ok hk hw;refine⟨e,he,hb,?_⟩;rcases h with h|⟨h,h'⟩
     ·exact .inl h
     ·refine .inr ⟨h,?_⟩
      rw[hun e.on (fun e'=>by rw[e',hwj] at h;cases h)];exact h'
    have hap:=hfree j oj hoj hji hjun hnot;cases he:eff j with
    | true=>
      have hg:grow j=true:=(hE j oj hoj he hjun).resolve_left (by rw[hwj];simp);rw[RJ rfl];rw[he,RJ rfl] at h1;intro w' hb;have h2:=FZ hoj hap (fun cs b=>hsel i oi cs b hi) (fun cs b=>hsel j oj cs b hoj) hQ hy (h1 w' hb);refine Wg (fun a' w2 h3=>⟨h3.2.1,ih (listed.setIfInBounds j true) a' w2 hfree' hE' hW' (UB hr (W7 hji)) (cR.later h3.1 (ro hb (h3.2.1 hg))) ?_⟩) h2;rw[T3 _ _ hji];exact h3.2.2
    | false=>
      rw[RI (by simp)];rw[he,RI (by simp)] at h1;have h2:=KG hoj hap (fun cs b=>hsel i oi cs b hi) (fun cs b=>hsel j oj cs b hoj) hy h1;refine W8 (fun a' h3=>ih (listed.setIfInBounds j true) a' w hfree' hE' hW' (UB hr (W7 hji)) h3.1 ?_) h2;rw[T3 _ _ hji];exact h3.2
def Ov(md:Region.Mode)(ops:Array Oper)(eff grow W:Nat→Bool)(listed:Array Bool)(i:Nat):Bool:=
 (List.range ops.size).all fun j=>(!(eff j&&unl listed j)||(W j||grow j)) &&
  (!W j||(match ops[j]? with|some oj=>oj.after.any fun e=>Region.binds md e&&(e.on==i||(W e.on&&unl listed e.on))|none=>false))
theorem Du{W:Nat→Bool}{listed:Array Bool}{i:Nat}(h:Ov md ops eff grow W listed i=true) :
  (∀ j oj,ops[j]?=some oj→eff j=true→listed.getD j true=false→W j=true∨grow j=true)∧
  (∀ j oj,ops[j]?=some oj→W j=true→∃ e∈oj.after,Region.binds md e=true∧(e.on=i∨(W e.on=true∧listed.getD e.on true=false))):=by
 have hj:∀ j oj,ops[j]?=some oj→j∈List.range ops.size:=fun j oj ho=>Un.2 (Tr.1 ho).1
 refine⟨fun j oj ho he hu=>?_,fun j oj ho hw=>?_⟩
 ·have:=S6.1 h j (hj j oj ho)
  simp only[RU,SQ,SY,he,unl,hu] at this;simpa using this.1
 ·have:=S6.1 h j (hj j oj ho)
  simp only[RU,SQ,SY,ho,hw] at this
  have:=this.2;simp only[VV,Wh,Array.any_eq_true',RU,SQ,R1] at this;obtain⟨e,he,hb,h⟩:=this;refine⟨e,he,hb,?_⟩;rcases h with h|⟨h,h'⟩
  ·exact .inl h
  ·exact .inr ⟨h,by simpa[unl] using h'⟩
def lj:Op→Bool
 |.call { callee:=.value _,.. }=>false
 |.convert _ _ _=>false
 |o=>!ou o
def C9(T:TypeId→TI):Op→Bool
 |.alloc t=>!((T t).kind matches .other)
 |_=>false
def it(ops:Array Oper)(k:Nat):Bool:=match ops[k]? with|some o=>lj o.op|none=>true
def oq(T:TypeId→TI)(ops:Array Oper)(k:Nat):Bool:=match ops[k]? with|some o=>C9 T o.op|none=>false
def mr(T:TypeId→TI)(md:Region.Mode)(ops:Array Oper):List Nat→Array Bool→Bool
 |[],listed=>(Region.ready md ops listed).isEmpty
 | k :: ks,listed=>(bif it ops k then decide (Region.ready md ops listed=[k])
     else(Region.ready md ops listed).contains k&&Region.free md ops listed k&&Ov md ops (it ops) (oq T ops) (fun j=>(qc md ops listed k).getD j false) listed k) &&
   mr T md ops ks (listed.setIfInBounds k true)
def sS(ops:Array Oper):List Nat:=(List.range ops.size).filter (fun k=>!it ops k)++(List.range ops.size).filter (it ops)
def EI(T:TypeId→TI)(ops:Array Oper):Bool:=Region.noSelect ops&&mr T .any ops (sS ops) (Array.replicate ops.size false)
def lE(l:List Oper):List Oper:=l.filter (fun o=>!lj o.op)++l.filter (fun o=>lj o.op)
end
section
variable {P:Program} {T:TypeId→TI} {E:Ent} {s:ASt} {ρ:List (Option (Nat×Nat))} {a:Act} {w:World}
def mK(P:Program)(T:TypeId→TI)(ops:Array Oper)(K:ASt→Prop):List Oper→ASt→Prop
 |[],s=>K s
 |o::r,s=>bif lj o.op then m5 P T ops s o (mK P T ops K r) else gx P T ops s o (mK P T ops K r)
theorem Hh(P:Program)(T:TypeId→TI)(ops:Array Oper)(K:ASt→Prop)(s:ASt):mK P T ops K [] s=K s:=rfl
theorem DN(P:Program)(T:TypeId→TI)(ops:Array Oper)(K:ASt→Prop)(o:Oper)(r:List Oper)(s:ASt):mK P T ops K (o::r) s=bif lj o.op then m5 P T ops s o (mK P T ops K r) else gx P T ops s o (mK P T ops K r):=rfl
theorem Lb(w:World)(o:Obj):Bel w (pushB w o):=
 sh w o
theorem Fx(hT:ap P T){ops:Array Oper}{i:Nat}{o:Oper}(hi:ops[i]?=some o)(hg:C9 T o.op=true){Q:Exit→Act→World→Prop}{K:Act→World→Prop}(h:wpOp P ops Q i K a w) :
  wpOp P ops Q i (fun a' w2=>Bel w w2∧K a' w2) a w:=by
 unfold wpOp at *
 simp only[hi] at *
 split
 ·rename_i hw
  simp only[hw,S9] at h;rcases h with h|h
  case inr=>exact .inr h
  refine .inl ?_;obtain⟨dst,op,ty,pos,after,guard⟩:=o;simp only at hg;cases op<;>simp only[C9] at hg<;>try cases hg
  rename_i t;have hko:(T t).kind≠.other:=by intro e;rw[e] at hg;simp at hg
  obtain⟨z,hz1,hz2,_⟩:=eZ (P:=P) hT hko;have hrun:(Instr.alloc t true (.tuple #[])).run P w=.ok (.pointer (some ⟨w.heap.size,0,none⟩)) (pushB w (.cells z.cells t)):=by simp[Instr.alloc,hz1,newVar,newRow,pushB]
  unfold Oper.wp at *
  simp only[execOp,SS,hrun,So,S4,Oper.upon] at h ⊢;exact⟨Lb _ _,h⟩
 ·rename_i hw
  simp only[hw] at h;exact⟨BV _,h⟩
theorem nf(hT:ap P T){ops:Array Oper}{Q:Exit→Act→World→Prop}{K:ASt→Prop}(hs:Region.noSelect ops=true)(hQ:∀ c a w,¬ Q (.panic c) a w)(hK:∀ s' ρ' a' w',K s'→Rep E s' ρ' a' w'→Q .normal a' w') :
  ∀ (l:List Oper) (ks:List Nat) (listed:Array Bool) (s:ASt) (ρ:List (Option (Nat×Nat))) (a:Act) (w:World),ks.map (fun k=>ops[k]?)=l.map some→mr T .any ops ks listed=true→
    mK P T ops K l s→Rep E s ρ a w→mi P .any ops Q (it ops) (oq T ops) l.length listed a w
 | [],ks,listed,s,ρ,a,w,hl,hB,h,hr=>by
   have:ks=[]:=by simpa using hl
   subst this;exact⟨by simpa[mr] using hB,fun w' hb=>hK _ _ _ _ h (hr.below hb)⟩
 |o::l,[],listed,s,ρ,a,w,hl,hB,h,hr=>by simp at hl
 | o :: l,k::ks,listed,s,ρ,a,w,hl,hB,h,hr=>by
   simp only[TL,Sk] at hl;obtain⟨h0,hl'⟩:=hl;simp only[RQ,mr,RU] at hB;obtain⟨hB1,hB2⟩:=hB;have he:it ops k=lj o.op:=by simp[it,h0]
   simp only[mK] at h;cases hf:lj o.op with
   | true=>
     rw[he,hf] at hB1;simp only[hf,Vx] at h;simp only[Vx,RN] at hB1;refine⟨fun h1=>(by rw[hB1] at h1;cases h1),fun i hi=>?_⟩;rw[hB1] at hi;have hik:i=k:=by simpa using hi
     subst hik;rw[RJ (by rw[he,hf])];intro w' hb;have base:wpOp P ops Q i (fun a' w2=>mi P .any ops Q (it ops) (oq T ops) l.length (listed.setIfInBounds i true) a' w2) a w':=by unfold wpOp;simp only[h0];exact jP hT (hr.below hb) o h fun s' ρ' a' w2 hs' hr'=>nf hT hs hQ hK l ks _ s' ρ' a' w2 hl' hB2 hs' hr'
     by_cases hg:oq T ops i=true
     ·exact Wg (fun a' w2 h3=>⟨fun _=>h3.1,h3.2⟩) (Fx hT h0 (by simpa[oq,h0] using hg) base)
     ·exact Wg (fun a' w2 h3=>⟨fun hg'=>absurd hg' hg,h3⟩) base
   | false=>
     rw[he,hf] at hB1;simp only[hf,U0] at h;simp only[U0,RU] at hB1;obtain⟨⟨hB3,hB4⟩,hB5⟩:=hB1
     have hq:=od hT hr (ops:=ops) o (KK:=fun a'=>mi P .any ops Q (it ops) (oq T ops) l.length (listed.setIfInBounds k true) a' w) h
      fun s' a' hs' hr'=>nf hT hs hQ hK l ks _ s' ρ a' w hl' hB2 hs' hr'
     obtain⟨hW1,hW2⟩:=Du hB5
     by_cases hw:Region.wanted o (yielded ops a.tmps)=true
     ·rw[RJ hw] at hq
      obtain⟨v,h1,h2⟩:=hq;exact pw h0 (T6 hs) (by rw[he,hf]) hQ l.length listed a w (UE h0 hB4) hW1 hW2 (by simpa using hB3) (.inl ⟨hw,h1⟩) h2
     ·rw[RI hw] at hq
      exact pw h0 (T6 hs) (by rw[he,hf]) hQ l.length listed a w (UE h0 hB4) hW1 hW2 (by simpa using hB3) (.inr ⟨by simpa using hw,rfl⟩) hq
theorem XN{Q:Exit→ASt→Prop}{id:Nat}{l:List Oper}(hm:P.follows .mixedOrders=true)(hT:ap P T)(hB:EI T l.toArray=true)
  (h:∀ K:ASt→Prop,(∀ s',Q .normal s'→K s')→mK P T l.toArray K (lE l) s):AWP P (.region id l.toArray true) s Q:=fun E ρ a w hr=>by
 simp only[EI,RU] at hB
 have e:∀ p:Oper→Bool,((List.range l.toArray.size).filter (fun k=>match l.toArray[k]? with|some x=>p x|none=>false)).map (fun k=>l.toArray[k]?)=(l.filter p).map some:=fun p=>by
  have:=oG p l l 0 fun j=>by simp
  rw[WG,T7];exact this
 have e1:∀ k,k∈List.range l.toArray.size→(!it l.toArray k)=(match l.toArray[k]? with|some x=>!lj x.op|none=>false):=fun k hk=>by
  have hk':k<l.length:=by simpa using hk
  simp[it,hk']
 have e2:∀ k,k∈List.range l.toArray.size→it l.toArray k=(match l.toArray[k]? with|some x=>lj x.op|none=>false):=fun k hk=>by
  have hk':k<l.length:=by simpa using hk
  simp[it,hk']
 have hks:(sS l.toArray).map (fun k=>l.toArray[k]?)=(lE l).map some:=by rw[sS,lE,Sn,Sn,Vj e1,Vj e2,e,e]
 have hl:(lE l).length=l.length:=by
  rw[lE,RL,←T9,←T9,TS]
  have:=Vk (fun o:Oper=>lj o.op) (l:=l);simpa using this.symm
 refine wpm (WU (Q:=fun e a' w'=>(∀ c,e≠.panic c)∧∃ s' ρ',Rep E s' ρ' a' w'∧Q e s') hm (iY (eff:=it l.toArray) _ _ a w _ (nb (grow:=oq T l.toArray) _ _ _ _ ?_) ⟨rfl,rfl,rfl,RP _,fun _ _=>rfl⟩)) fun _ _ _ h=>h.2
 have:=nf (E:=E) hT (Q:=fun e a' w'=>(∀ c,e≠.panic c)∧∃ s' ρ',Rep E s' ρ' a' w'∧Q e s') hB.1 (fun c a w h=>h.1 c rfl) (fun s' ρ' a' w' hs hr'=>⟨by simp,s',ρ',hr',hs⟩) (lE l) (sS l.toArray) (Array.replicate l.toArray.size false) s ρ a w hks hB.2
  (h _ fun _ hq=>hq) hr
 simpa[hl] using this
end
section
variable {P:Program} {T:TypeId→TI} {E:Ent} {s:ASt} {ρ ρ':List (Option (Nat×Nat))} {a:Act} {w w':World} {hp:List ABlk}
/-! ### A function's end -/
def tY(T:TypeId→TI)(s:ASt):ResultVar→PR
 |.tmp t=>⟨de (cy s.env t),aj (cy s.env t)⟩
 |.cell t ty=>g1 (cy s.env t) (wH (T ty) s.hp)
def bh(T:TypeId→TI)(s:ASt):List ResultVar→Prop×List AV
 |[]=>(True,[])
 |r::l=>((tY T s r).ok∧(bh T s l).1,(tY T s r).v::(bh T s l).2)
def du:List AV→AV
 |[x]=>x
 |l=>.tup l
def af(np:Nat)(hp:List ABlk)(v:AV)(R:AV→List ABlk→Prop):Prop:=
 ∀ (E:Ent) (ρ:List (Option (Nat×Nat))) (w:World) (u:Value),E.ρ0.length=np→X5 E ρ hp w→(∀(k:Nat) (p:Option (Nat×Nat)),E.ρ0[k]?=some p→ρ[k]?=some p)→RepV ρ (okB E ρ hp w) w v u→
   ∃ v' hp' ρ',R v' hp'∧X5 E ρ' hp' w∧(∀(k:Nat) (p:Option (Nat×Nat)),E.ρ0[k]?=some p→ρ'[k]?=some p)∧RepV ρ' (okB E ρ' hp' w) w v' u
def nV(T:TypeId→TI)(rs:List ResultVar)(R:AV→List ABlk→Prop):Exit→ASt→Prop
 |.ret,s=>(bh T s rs).1∧af s.np s.hp (du (bh T s rs).2) R
 |.normal,s=>(bh T s rs).1∧af s.np s.hp (du (bh T s rs).2) R
 |_,_=>False
def oP(tmps:Array Value)(r:ResultVar):Sem Value:=
 match r with
 |.tmp t=>pure (tmps.getD t undef)
 |.cell a t=>do loadVar t (←asAddr (tmps.getD a undef))
theorem uA(fn:Func)(tmps:Array Value):results fn tmps=(fn.results.mapM (oP tmps) >>= fun vs=>pure (if h:vs.size=1 then vs[0] else .tuple vs)):=by unfold results;congr 1
theorem AC(hT:ap P T)(h:Rep E s ρ a w)(r:ResultVar)(hk:(tY T s r).ok) :
  ∃ u,RepV ρ (okB E ρ s.hp w) w (tY T s r).v u∧(oP a.tmps r).run P w=.ok u w:=by
 cases r with
 |tmp t=>exact⟨_,ai (h.env t) hk,by simp only[oP,S4]⟩
 | cell x ty=>
   obtain⟨hg,hk⟩:=hk;obtain⟨u,h1,h2⟩:=xq (P:=P) hT h.lt h.heap.blks ty _ _ (ai (h.env x) hg) hk;have h3:=h2 w (jg w);refine⟨u,h1,?_⟩;generalize hq:a.tmps.getD x undef=q at *
   have:∃ ad,q=.pointer (some ad):=by
    clear hq;cases q with
    | pointer p=>
      cases p with
      |some ad=>exact⟨ad,rfl⟩
      |none=>simp[Instr.loadAt,Instr.sureAddr] at h3
    |_=>simp[Instr.loadAt,Instr.sureAddr] at h3
   obtain⟨ad,rfl⟩:=this;simp[Instr.loadAt,Instr.sureAddr] at h3;simp only[oP,hq,asAddr,SS,S4,So];exact h3
theorem rV(hT:ap P T)(h:Rep E s ρ a w):∀(rs:List ResultVar),(bh T s rs).1→∃ us:List Value,us.length=rs.length∧ia ρ (okB E ρ s.hp w) w (bh T s rs).2 us∧
  (rs.mapM (oP a.tmps)).run P w=.ok us w
 |[],_=>⟨[],rfl,⟨rfl,by simp⟩,by simp⟩
 | r :: l,hk=>by
   obtain⟨u,h1,h2⟩:=AC hT h r hk.1;obtain⟨us,h3,h4,h5⟩:=rV hT h l hk.2;refine⟨u::us,by simp[h3],⟨by simp[bh,h4.1],fun j x v hx hv=>?_⟩,?_⟩
   ·match j with
    |0=>simp[bh] at hx hv;subst hx;subst hv;exact h1
    |j+1=>exact h4.2 j x v (by simpa[bh] using hx) (by simpa using hv)
   ·rw[WD,SS,h2,So,SS,h5,So]
    rfl
theorem wg(hT:ap P T)(h:Rep E s ρ a w)(fn:Func)(hk:(bh T s fn.results.toList).1) :
  ∃ u,RepV ρ (okB E ρ s.hp w) w (du (bh T s fn.results.toList).2) u∧(results fn a.tmps).run P w=.ok u w:=by
 obtain⟨us,h1,h2,h3⟩:=rV hT h fn.results.toList hk;have hm:(fn.results.mapM (oP a.tmps)).run P w=.ok us.toArray w:=by rw[V2,Sem.run_map,h3,So]
 have hrun:(results fn a.tmps).run P w=.ok (if h:us.toArray.size=1 then us.toArray[0] else .tuple us.toArray) w:=by rw[uA,SS,hm,So];rfl
 by_cases hl:us.length=1
 ·match us,hl,h2,hrun with
  | [u],_,h2,hrun=>
    have:∃ x,(bh T s fn.results.toList).2=[x]:=by
     match hx:(bh T s fn.results.toList).2,h2.1 with
     |[x],_=>exact⟨x,rfl⟩
    obtain⟨x,hx⟩:=this;rw[hx] at h2;refine⟨u,?_,by simpa using hrun⟩;rw[hx];exact h2.2 0 x u rfl rfl
 ·refine⟨.tuple us.toArray,?_,?_⟩
  ·have:du (bh T s fn.results.toList).2=.tup (bh T s fn.results.toList).2:=by
    have hll:=h2.1;cases hx:(bh T s fn.results.toList).2 with
    |nil=>rfl
    | cons x r=>
      cases r with
      |nil=>rw[hx] at hll;exact absurd hll hl
      |cons y r=>rfl
   rw[this];exact .tup _ _ h2.1 h2.2
  ·rw[hrun]
   have:¬ (us.toArray.size=1):=by simpa using hl
   rw[dif_neg this]
def gE:Nat→List AV→List (Nat×AV)
 |_,[]=>[]
 |k,x::r=>(k,x)::gE (k+1) r
theorem AU:∀(xs:List AV) (k t:Nat),cy (gE k xs) t=if k≤t∧t<k+xs.length then xs.getD (t-k) .any else .any
 |[],k,t=>by simp[gE,cy]
 | x :: r,k,t=>by
   simp only[gE,cy]
   by_cases h:k=t
   ·subst h;simp
   ·rw[RI h,AU r (k+1) t]
    by_cases h2:k+1≤t∧t<k+1+r.length
    ·rw[RJ h2,RJ (by simp;omega),show t-k=(t-(k+1))+1 from by omega]
     simp
    ·rw[RI h2,RI (by simp;omega)]
theorem cr (hT : ap P T) {g : FuncId} {fn : Func} {c : Code} (hf : P.funcs[g]? = some fn) (hb : fn.body = some c) (hn : (fn.name == "runtime.NumGoroutine") = false)
  {hp:List ABlk} {xs:List AV} {R:AV→List ABlk→Prop} (hx:xs.length≤fn.ntmps)
  (h:AWP P c { np:=hp.length,nt:=fn.ntmps,env:=gE 0 xs,hp:=hp } (nV T fn.results.toList R)):ab P hp g xs R:=by
 refine⟨⟨fn,hf,hn,by rw[hb];rfl⟩,fun E w us hw hH hus=>?_⟩;have hnp:E.ρ0.length=hp.length:=hH.len;refine calls_of_wp hf hb (wpm (h E E.ρ0 _ w ⟨hnp,rfl,?_,fun t=>?_,hH,fun _ _ hk=>hk⟩) fun e a' w' hh=>?_)
 ·simp[hus.1];omega
 ·rw[AU]
  by_cases ht:0≤t∧t<0+xs.length
  ·rw[RJ ht]
   have hlt:t<xs.length:=by omega
   have:(us.toArray++Array.replicate (fn.ntmps-us.toArray.size) undef).getD t undef=us.getD t undef:=by rw[Ti,VT (by simp[hus.1,hlt])];simp[RG]
   rw[this,Sg];exact hus.2 t _ _ (di _ _ _ hlt) (di _ _ _ (by rw[hus.1];exact hlt))
  ·rw[RI ht];exact .any _
 ·obtain⟨s',ρ',hr,hq⟩:=hh
  have fin:(bh T s' fn.results.toList).1∧af s'.np s'.hp (du (bh T s' fn.results.toList).2) R→a'.defers=[]∧∃ v,(results fn a'.tmps).run P w'=.ok v w'∧
    ∃ u v_1 hp' ρ',Ending.returned v=.returned u∧R v_1 hp'∧X5 E ρ' hp' w'∧(∀(k:Nat) (p:Option (Nat×Nat)),E.ρ0[k]?=some p→ρ'[k]?=some p)∧RepV ρ' (okB E ρ' hp' w') w' v_1 u:=by
   intro⟨h1,h2⟩;obtain⟨u,hu,hrun⟩:=wg hT hr fn h1;obtain⟨v',hp',ρ2,q1,q2,q3,q4⟩:=h2 E ρ' w' u hr.np hr.heap hr.pre hu;exact⟨hr.nodef,u,hrun,u,v',hp',ρ2,rfl,q1,q2,q3,q4⟩
  cases e with
  |ret=>exact fin hq
  |normal=>exact fin hq
  |_=>exact hq.elim
theorem af.data{hp:List ABlk}{v:AV}{R:AV→List ABlk→Prop}(hf:cc hp v)(hn:cp (bt hp v))(hR:R (bt hp v) []):af 0 hp v R:=by
 intro E ρ w u hnp hH hpre hv;have h0:E.ρ0=[]:=Sf hnp;have hnl:∀ b,¬ fH [] [] b:=fun b ⟨k,x,m,hx,_⟩=>by simp at hx
 have hok:∀ b,okB E ρ hp w b→okB E [] [] w b:=fun b ⟨h1,h2,_⟩=>⟨h1,h2,hnl b⟩
 have key:∀(k b m sz:Nat) (rs:List (List DV)),hp[k]?=some (.rows sz rs)→ρ[k]?=some (some (b,m))→okB E [] [] w b:=by
  intro k b m sz rs hk hb;obtain⟨q1,us,ty,fz,q2,_⟩:=hH.blk k _ b m hk hb (by simp);rcases q1 with q1|q1
  ·obtain⟨k',m',hk'⟩:=E.hL b q1
   rw[h0] at hk';simp at hk'
  ·exact⟨.inr q1,a8 q2,hnl b⟩
 refine⟨bt hp v,[],[],hR,⟨rfl,by simp,by simp,by simp,hH.fr⟩,by simp[h0],?_⟩;exact La hH.blks hok key hv hf hn
/-! ### Renaming of blocks -/
mutual
def renV(f:Nat→Nat):AV→AV
 |.ptr k off=>.ptr (f k) off
 |.rp k sz i off=>.rp (f k) sz i off
 |.osl k sz off n=>.osl (f k) sz off n
 |.agg cs=>.agg (renL f cs)
 |.tup cs=>.tup (renL f cs)
 |.clo g a b=>.clo g (renL f a) (renL f b)
 |.gd g v=>.gd g (renV f v)
 |.mp k=>.mp (f k)
 |.d x=>.d x
 |.dp row off=>.dp row off
 |.any=>.any
def renL(f:Nat→Nat):List AV→List AV
 |[]=>[]
 |x::r=>renV f x::renL f r
end
def renB(f:Nat→Nat):ABlk→ABlk
 |.cells cs=>.cells (renL f cs)
 |.rows sz rs=>.rows sz rs
 |.full sz rs=>.full sz rs
 |.bytes l=>.bytes l
 |.map es=>.map es
 |.iter k a b c=>.iter (f k) a b c
 |.dead=>.dead
mutual
def inV(n:Nat):AV→Prop
 |.ptr k _=>k<n
 |.rp k _ _ _=>k<n
 |.osl k _ _ _=>k<n
 |.agg cs=>inL n cs
 |.tup cs=>inL n cs
 |.clo _ a b=>inL n a∧inL n b
 |.gd _ v=>inV n v
 |.mp k=>k<n
 |_=>True
def inL(n:Nat):List AV→Prop
 |[]=>True
 |x::r=>inV n x∧inL n r
end
def inB(n:Nat):ABlk→Prop
 |.cells cs=>inL n cs
 |.iter k _ _ _=>k<n
 |_=>True
theorem eA{f:Nat→Nat}:∀{cs:List AV} {j:Nat},(renL f cs)[j]?=(cs[j]?).map (renV f)
 |[],j=>by simp[renL]
 |x::r,0=>by simp[renL]
 |x::r,j+1=>by simp only[renL,Tt];exact eA
theorem cL{f:Nat→Nat}:∀{cs:List AV},(renL f cs).length=cs.length
 |[]=>rfl
 |x::r=>by simp[renL,cL (cs:=r)]
theorem lr{n:Nat}:∀{cs:List AV} {j:Nat} {x:AV},inL n cs→cs[j]?=some x→inV n x
 |y::r,0,x,h,hx=>by simp at hx;subst hx;exact h.1
 |y::r,j+1,x,h,hx=>lr h.2 (by simpa using hx)
theorem KE{ok ok':Nat→Prop}{f:Nat→Nat}(hρ:∀(k:Nat) (p:Option (Nat×Nat)),ρ[k]?=some p→ρ'[f k]?=some p)(hok:∀ b,ok b→ok' b∧w'.heap[b]?=w.heap[b]?)
  {v:AV} {u:Value} (h:RepV ρ ok w v u):RepV ρ' ok' w' (renV f v) u:=by
 induction h with
 |d x v h=>simp only[renV];exact .d _ _ (h.mono hok)
 | agg cs us hl h1 hr ih=>
   simp only[renV];refine .agg _ _ (by rw[cL];exact hl) h1 fun j c u hc hu=>?_
   rw[eA] at hc;obtain⟨x,hx,rfl⟩:=RY.1 hc;exact ih j x u hx hu
 | tup cs us hl hr ih=>
   simp only[renV];refine .tup _ _ (by rw[cL];exact hl) fun j c u hc hu=>?_
   rw[eA] at hc;obtain⟨x,hx,rfl⟩:=RY.1 hc;exact ih j x u hx hu
 |ptr k off b m h=>simp only[renV];exact .ptr _ _ b m (hρ _ _ h)
 |rp k sz i off b m h=>simp only[renV];exact .rp _ _ _ _ b m (hρ _ _ h)
 |osl k sz off n b m cap h hm hn=>simp only[renV];exact .osl _ _ _ _ b m cap (hρ _ _ h) hm hn
 |oslnil k sz A h=>simp only[renV];exact .oslnil _ _ A (hρ _ _ h)
 | dp row off b o u hb hc hr=>
   simp only[renV];exact .dp row off b o u (hok b hb).1 (fun j c hj=>(bM (hok b hb).2).trans (hc j c hj)) fun j c hj=>(hr j c hj).mono hok
 | clo g first caps us vs hl hl' hr hr' ih ih'=>
   simp only[renV];refine .clo _ _ _ us vs (by rw[cL];exact hl) (by rw[cL];exact hl') (fun j c u hc hu=>?_) fun j c u hc hu=>?_
   ·rw[eA] at hc
    obtain⟨x,hx,rfl⟩:=RY.1 hc;exact ih j x u hx hu
   ·rw[eA] at hc
    obtain⟨x,hx,rfl⟩:=RY.1 hc;exact ih' j x u hx hu
 |mp k b m h=>simp only[renV];exact .mp _ b m (hρ _ _ h)
 |gd g v u ht hf ih=>simp only[renV];exact .gd _ _ _ ih hf
 |any u=>simp only[renV];exact .any u
theorem ug{ok ok':Nat→Prop}{f:Nat→Nat}{n:Nat}(hρ:∀(k:Nat) (p:Option (Nat×Nat)),k<n→ρ[f k]?=some p→ρ'[k]?=some p)(hok:∀ b,ok b→ok' b∧w'.heap[b]?=w.heap[b]?)
  {x:AV} {u:Value} (h:RepV ρ ok w x u):∀(v:AV),x=renV f v→inV n v→RepV ρ' ok' w' v u:=by
 induction h with
 |d x u h=>intro v e hi;cases v<;>simp[renV] at e;subst e;exact .d _ _ (h.mono hok)
 | agg cs us hl h1 hr ih=>
   intro v e hi;cases v<;>simp[renV] at e
   subst e;simp only[inV] at hi;refine .agg _ _ (by rw[cL] at hl;exact hl) h1 fun j c u hc hu=>?_
   exact ih j (renV f c) u (by rw[eA,hc];rfl) hu c rfl (lr hi hc)
 | tup cs us hl hr ih=>
   intro v e hi;cases v<;>simp[renV] at e
   subst e;simp only[inV] at hi;refine .tup _ _ (by rw[cL] at hl;exact hl) fun j c u hc hu=>?_
   exact ih j (renV f c) u (by rw[eA,hc];rfl) hu c rfl (lr hi hc)
 |ptr k off b m h=>intro v e hi;cases v<;>simp[renV] at e;obtain⟨rfl,rfl⟩:=e;exact .ptr _ _ b m (hρ _ _ hi h)
 |rp k sz i off b m h=>intro v e hi;cases v<;>simp[renV] at e;obtain⟨rfl,rfl,rfl,rfl⟩:=e;exact .rp _ _ _ _ b m (hρ _ _ hi h)
 |osl k sz off n b m cap h hm hn=>intro v e hi;cases v<;>simp[renV] at e;obtain⟨rfl,rfl,rfl,rfl⟩:=e;exact .osl _ _ _ _ b m cap (hρ _ _ hi h) hm hn
 |oslnil k sz A h=>intro v e hi;cases v<;>simp[renV] at e;obtain⟨rfl,rfl,rfl,rfl⟩:=e;exact .oslnil _ _ A (hρ _ _ hi h)
 | dp row off b o u hb hc hr=>
   intro v e hi;cases v<;>simp[renV] at e
   obtain⟨rfl,rfl⟩:=e;exact .dp row off b o u (hok b hb).1 (fun j c hj=>(bM (hok b hb).2).trans (hc j c hj)) fun j c hj=>(hr j c hj).mono hok
 | clo g first caps us vs hl hl' hr hr' ih ih'=>
   intro v e hi;cases v<;>simp[renV] at e
   obtain⟨rfl,rfl,rfl⟩:=e;simp only[inV] at hi;rw[cL] at hl hl';refine .clo _ _ _ us vs hl hl' (fun j c u hc hu=>?_) fun j c u hc hu=>?_
   ·exact ih j (renV f c) u (by rw[eA,hc];rfl) hu c rfl (lr hi.1 hc)
   ·exact ih' j (renV f c) u (by rw[eA,hc];rfl) hu c rfl (lr hi.2 hc)
 |mp k b m h=>intro v e hi;cases v<;>simp[renV] at e;subst e;exact .mp _ b m (hρ _ _ hi h)
 | gd g v u ht hf ih=>
   intro v' e hi;cases v'<;>simp[renV] at e
   obtain⟨rfl,rfl⟩:=e;exact .gd _ _ _ (fun hg=>ih hg _ rfl hi) hf
 |any u=>intro v e hi;cases v<;>simp[renV] at e;exact .any u
/-! ### What may be forgotten of a state, and its blocks named anew -/
def mAt(m:List Nat)(big k:Nat):Nat:=(m[k]?).getD big
def pm(f:Nat→Nat)(n:Nat)(env:List (Nat×AV)):List (Nat×AV)→Prop
 |[]=>True
 |(t,v)::r=>(cy env t=renV f v∧inV n v)∧pm f n env r
def mT(f:Nat→Nat)(n:Nat)(hp:List ABlk):Nat→List ABlk→Prop
 |_,[]=>True
 |i,x::r=>(x=.dead∨(hp[f i]?=some (renB f x)∧inB n x))∧mT f n hp (i+1) r
theorem wT{f:Nat→Nat}{n:Nat}{env:List (Nat×AV)}:∀{env':List (Nat×AV)},pm f n env env'→∀ t,cy env' t=.any∨(cy env t=renV f (cy env' t)∧inV n (cy env' t))
 |[],_,t=>.inl rfl
 | (k,v)::r,h,t=>by
   simp only[cy];split
   ·rename_i e;subst e;exact .inr h.1
   ·exact wT h.2 t
theorem tT{f:Nat→Nat}{n:Nat}{hp:List ABlk}:∀{hp':List ABlk} {i:Nat},mT f n hp i hp'→∀(j:Nat) (x:ABlk),hp'[j]?=some x→x=.dead∨(hp[f (i+j)]?=some (renB f x)∧inB n x)
 |[],i,_,j,x,hx=>by simp at hx
 |y::r,i,h,0,x,hx=>by simp at hx;subst hx;exact h.1
 | y::r,i,h,j+1,x,hx=>by
   have:=tT (i:=i+1) h.2 j x (by simpa using hx);rwa[show i+1+j=i+(j+1) from by omega] at this
theorem wN{f:Nat→Nat}{x:ABlk}{us:Array Value}{fz:Nat×Nat}:plain (renB f x) us fz↔plain x us fz:=by cases x<;>simp[plain,renB]
theorem Cc{f:Nat→Nat}{x:ABlk}:(renB f x).isObj=x.isObj:=by cases x<;>rfl
theorem db{f:Nat→Nat}{x:ABlk}(h:x≠.dead):renB f x≠.dead:=by cases x<;>simp_all[renB]
theorem Id{ok ok':Nat→Prop}{f:Nat→Nat}{n:Nat}(hρ:∀(k:Nat) (p:Option (Nat×Nat)),k<n→ρ[f k]?=some p→ρ'[k]?=some p)(hok:∀ b,ok b→ok' b∧w'.heap[b]?=w.heap[b]?)
  {us:Array Value} {x:ABlk} (h:eo ρ ok w us (renB f x)) (hi:inB n x):eo ρ' ok' w' us x:=by
 refine⟨h.1,?_⟩;cases x with
 | cells cs=>
   obtain⟨_,h1,h2⟩:=h;rw[cL] at h1;exact⟨h1,fun j c u hc hu=>ug hρ hok (h2 j (renV f c) u (by rw[eA,hc];rfl) hu) c rfl (lr hi hc)⟩
 | rows sz rs=>
   obtain⟨_,h1,h2,h3⟩:=h;exact⟨h1,h2,fun i r hi j c u hc hu=>(h3 i r hi j c u hc hu).mono hok⟩
 | full sz rs=>
   obtain⟨_,h1,h2,h3⟩:=h;exact⟨h1,h2,fun i r hi j c u hc hu=>(h3 i r hi j c u hc hu).mono hok⟩
 | bytes l=>
   obtain⟨_,h1,h2,h3⟩:=h;exact⟨h1,h2,fun i r hi j c u hc hu=>(h3 i r hi j c u hc hu).mono hok⟩
 |map es=>trivial
 |iter k a b c=>trivial
 |dead=>trivial
theorem Pu{ok ok':Nat→Prop}{f:Nat→Nat}(hρ:∀(k:Nat) (p:Option (Nat×Nat)),ρ[k]?=some p→ρ'[f k]?=some p)(hok:∀ b,ok b→ok' b∧w'.heap[b]?=w.heap[b]?)
  {us:Array Value} {x:ABlk} (h:eo ρ ok w us x):eo ρ' ok' w' us (renB f x):=by
 refine⟨h.1,?_⟩;cases x with
 | cells cs=>
   obtain⟨_,h1,h2⟩:=h;refine⟨by rw[cL];exact h1,fun j c u hc hu=>?_⟩;rw[eA] at hc;obtain⟨y,hy,rfl⟩:=RY.1 hc;exact KE hρ hok (h2 j y u hy hu)
 | rows sz rs=>
   obtain⟨_,h1,h2,h3⟩:=h;exact⟨h1,h2,fun i r hi j c u hc hu=>(h3 i r hi j c u hc hu).mono hok⟩
 | full sz rs=>
   obtain⟨_,h1,h2,h3⟩:=h;exact⟨h1,h2,fun i r hi j c u hc hu=>(h3 i r hi j c u hc hu).mono hok⟩
 | bytes l=>
   obtain⟨_,h1,h2,h3⟩:=h;exact⟨h1,h2,fun i r hi j c u hc hu=>(h3 i r hi j c u hc hu).mono hok⟩
 |map es=>trivial
 |iter k a b c=>trivial
 |dead=>trivial
theorem Ae{ok ok':Nat→Prop}{f:Nat→Nat}{n m:Nat}{o:Obj}(hρ:∀(k:Nat) (p:Option (Nat×Nat)),k<n→ρ[f k]?=some p→ρ'[k]?=some p)(hok:∀ b,ok b→ok' b∧w'.heap[b]?=w.heap[b]?)
  {x:ABlk} (h:dJ ρ ok w m o (renB f x)) (hi:inB n x):dJ ρ' ok' w' m o x:=by
 by_cases hm:x.isObj=false
 ·obtain⟨us,ty,fz,h1,h2,h3,h4⟩:=(dJ.cells (by rw[Cc];exact hm)).1 h
  exact(dJ.cells hm).2 ⟨us,ty,fz,h1,h2,⟨h3.1,wN.1 h3.2⟩,Id hρ hok h4 hi⟩
 ·cases x with
  |map es=>exact h
  |iter k a b c=>obtain⟨b',m',h1,h2⟩:=h;exact⟨b',m',hρ _ _ hi h1,h2⟩
  |_=>simp at hm
theorem PI{ok ok':Nat→Prop}{f:Nat→Nat}{m:Nat}{o:Obj}(hρ:∀(k:Nat) (p:Option (Nat×Nat)),ρ[k]?=some p→ρ'[f k]?=some p)(hok:∀ b,ok b→ok' b∧w'.heap[b]?=w.heap[b]?)
  {x:ABlk} (h:dJ ρ ok w m o x):dJ ρ' ok' w' m o (renB f x):=by
 by_cases hm:x.isObj=false
 ·obtain⟨us,ty,fz,h1,h2,h3,h4⟩:=(dJ.cells hm).1 h
  exact(dJ.cells (by rw[Cc];exact hm)).2 ⟨us,ty,fz,h1,h2,⟨h3.1,wN.2 h3.2⟩,Pu hρ hok h4⟩
 ·cases x with
  |map es=>exact h
  |iter k a b c=>obtain⟨b',m',h1,h2⟩:=h;exact⟨b',m',hρ _ _ h1,h2⟩
  |_=>simp at hm
theorem ax.frame(m:List Nat){np nt:Nat}{env env':List (Nat×AV)}{hp hp':List ABlk}(hl:hp'.length=m.length)(hm:∀ i,i∈m→i<hp.length)(hinj:m.Nodup)(hpre:∀ k,k<np→m[k]?=some k)
  (he:pm (mAt m hp.length) m.length env env') (hh:mT (mAt m hp.length) m.length hp 0 hp') :
  ax { np:=np,nt:=nt,env:=env,hp:=hp } { np:=np,nt:=nt,env:=env',hp:=hp' }:=by
 intro E ρ a w h;have hlen:=h.heap.len;simp only at hlen
 have hmi:∀(i j x:Nat),m[i]?=some x→m[j]?=some x→i=j:=by
  intro i j x hi hj;obtain⟨hi1,hi2⟩:=RM.1 hi;obtain⟨hj1,hj2⟩:=RM.1 hj;have hpw:=SZ.1 hinj;rcases TR i j with hlt|heq|hgt
  ·exact absurd (hi2.trans hj2.symm) (hpw i j hi1 hj1 hlt)
  ·exact heq
  ·exact absurd (hj2.trans hi2.symm) (hpw j i hj1 hi1 hgt)
 have hget:∀ i,i<m.length→∃ x,m[i]?=some x∧mAt m hp.length i=x∧x<ρ.length:=by intro i hi;refine⟨m[i],RH hi,by simp[mAt,RH hi],?_⟩;rw[hlen];exact hm _ (SD hi)
 let ρ':List (Option (Nat×Nat)):=m.map fun i=>(ρ[i]?).getD none
 have hρ':∀(k:Nat) (p:Option (Nat×Nat)),ρ'[k]?=some p↔∃ x,m[k]?=some x∧ρ[x]?=some p:=by
  intro k p;simp only[ρ',RS,RY];constructor
  ·rintro⟨x,hx,e⟩
   have hxl:x<ρ.length:=by rw[hlen];exact hm x (Sl hx)
   rw[RH hxl] at e;exact⟨x,hx,by rw[RH hxl];simpa using e⟩
  ·rintro⟨x,hx,e⟩
   exact⟨x,hx,by rw[e];rfl⟩
 have hdown:∀(k:Nat) (p:Option (Nat×Nat)),k<m.length→ρ[mAt m hp.length k]?=some p→ρ'[k]?=some p:=by intro k p hk hp';obtain⟨x,hx,e,_⟩:=hget k hk;rw[e] at hp';exact(hρ' k p).2 ⟨x,hx,hp'⟩
 have hblk:∀(j:Nat) (x:ABlk) (p:Option (Nat×Nat)),hp'[j]?=some x→x≠.dead→ρ'[j]?=some p→∃ i,m[j]?=some i∧mAt m hp.length j=i∧hp[i]?=some (renB (mAt m hp.length) x)∧inB m.length x∧ρ[i]?=some p:=by
  intro j x p hx hd hpj;rcases tT hh j x hx with e|⟨h1,h2⟩
  ·exact absurd e hd
  ·rw[SO] at h1
   obtain⟨i,hi,hip⟩:=(hρ' j p).1 hpj
   have:mAt m hp.length j=i:=by simp[mAt,hi]
   rw[this] at h1;exact⟨i,hi,this,by rw[this] at *;exact h1,h2,hip⟩
 have hlive:∀ b,fH ρ' hp' b→fH ρ hp b:=by intro b ⟨k,x,q,hx,hd,hk⟩;obtain⟨i,_,_,h1,_,h2⟩:=hblk k x _ hx hd hk;exact⟨i,_,q,h1,db hd,h2⟩
 have hok:∀ b,okB E ρ hp w b→okB E ρ' hp' w b∧w.heap[b]?=w.heap[b]?:=fun b ⟨h1,h2,h3⟩=>⟨⟨h1,h2,fun hl=>h3 (hlive b hl)⟩,rfl⟩
 refine⟨ρ',h.np,h.nodef,h.nt,fun t=>?_,⟨by simp[ρ',hl],fun k x b q hx hk hd=>?_,fun k x hx hk=>?_,fun k k' x x' b q q' hx hx' hd hd' hk hk'=>?_,h.heap.fr⟩,fun k p hk=>?_⟩
 ·rcases wT he t with e|⟨e,hi⟩
  ·simp only[e];exact .any _
  ·have:=h.env t
   simp only[e] at this;exact ug hdown hok this _ rfl hi
 ·obtain⟨i,_,_,h1,h2,h3⟩:=hblk k x _ hx hd hk
  obtain⟨q1,o,q2,q3⟩:=h.heap.obj i _ b q h1 h3 (db hd);exact⟨q1,o,q2,Ae hdown hok q3 h2⟩
 ·by_cases hd:x=.dead
  ·exact .inl hd
  ·obtain⟨i,_,_,h1,h2,h3⟩:=hblk k x _ hx hd hk
   rcases h.heap.nil i _ h1 h3 with e|⟨sz,e⟩
   ·exact absurd e (db hd)
   ·right
    cases x with
    |cells cs=>simp[renB] at e
    |rows sz' rs=>simp[renB] at e;exact⟨sz',by rw[e.2]⟩
    |full sz' rs=>simp[renB] at e
    |bytes l=>simp[renB] at e
    |map es=>simp[renB] at e
    |iter k a b c=>simp[renB] at e
    |dead=>simp[renB] at e
 ·obtain⟨i,a1,_,h1,_,h3⟩:=hblk k x _ hx hd hk
  obtain⟨i',a1',_,h1',_,h3'⟩:=hblk k' x' _ hx' hd' hk'
  have:=h.heap.inj i i' _ _ b q q' h1 h1' (db hd) (db hd') h3 h3';subst this;exact hmi k k' i a1 a1'
 ·have hkn:k<np:=by
   have:=(RM.1 hk).1;rw[h.np] at this;exact this
  exact(hρ' k p).2 ⟨k,hpre k hkn,h.pre k p hk⟩
theorem ax.keep{np nt:Nat}{env env':List (Nat×AV)}{hp hp':List ABlk}(hn:np≤hp'.length)(hlt:hp'.length≤hp.length)
  (he:pm (mAt (List.range hp'.length) hp.length) hp'.length env env') (hh:mT (mAt (List.range hp'.length) hp.length) hp'.length hp 0 hp') :
  ax { np:=np,nt:=nt,env:=env,hp:=hp } { np:=np,nt:=nt,env:=env',hp:=hp' }:=
 ax.frame (List.range hp'.length) (by simp) (fun i hi=>by simp at hi;omega) List.nodup_range (fun k hk=>by rw[Ub (by omega)]) (by simpa using he) (by simpa using hh)
theorem Xf(t sz:Nat){np nt:Nat}{env:List (Nat×AV)}{hp:List ABlk}(ht:cy env t=.d (.sc (.slice none 0 0))) :
  ax { np:=np,nt:=nt,env:=env,hp:=hp } { np:=np,nt:=nt,env:=(t,.osl hp.length sz 0 0)::env,hp:=hp++[.rows sz []] }:=by
 intro E ρ a w h;have hst:=Xo h.heap sz;have hr:=h.step hst;refine⟨_,hr.np,hr.nodef,hr.nt,fun t'=>?_,hr.heap,hr.pre⟩;simp only[cy]
 by_cases e:t=t'
 ·subst e
  simp only[S9]
  have:=h.env t;simp only[ht] at this;generalize hu:a.tmps.getD t undef=u at this;cases this with|d _ _ hd=>
  obtain⟨A,rfl⟩:=jd hd;have hl:=h.heap.len;simp only at hl;exact .oslnil _ _ A (by rw[←hl];simp)
 ·simp only[e,Tj]
  exact hr.env t'
def NK(hp:List ABlk)(env:List (Nat×AV)):List (Nat×AV)→Prop
 |[]=>True
 |(t,v)::r=>((cy env t=v)∨(cc hp (cy env t)∧cp (bt hp (cy env t))∧v=bt hp (cy env t)))∧NK hp env r
def killRows:List ABlk→List ABlk
 |[]=>[]
 |.rows _ _::r=>.dead::killRows r
 |x::r=>x::killRows r
theorem fp:∀{hp:List ABlk} {k:Nat} {x:ABlk},(killRows hp)[k]?=some x→x≠.dead→hp[k]?=some x
 |[],k,x,h,_=>by simp[killRows] at h
 | y::r,0,x,h,hd=>by
   cases y with
   |rows _ _=>simp[killRows] at h;exact absurd h.symm hd
   |cells _=>simpa[killRows] using h
   |full _ _=>simpa[killRows] using h
   |bytes _=>simpa[killRows] using h
   |map _=>simpa[killRows] using h
   |iter _ _ _ _=>simpa[killRows] using h
   |dead=>simp[killRows] at h;exact absurd h.symm hd
 | y::r,k+1,x,h,hd=>by
   have:(killRows r)[k]?=some x:=by cases y<;>simpa[killRows] using h
   simpa using fp this hd
theorem lY:∀{hp:List ABlk},(killRows hp).length=hp.length
 |[]=>rfl
 |y::r=>by cases y<;>simp[killRows,lY (hp:=r)]
theorem HStep.killRows(h:X5 E ρ hp w):HStep E ρ hp w ρ (killRows hp) w:=by
 have hlive:∀ b,fH ρ (_root_.Go.Proofs.YtjcooccnfkfjhaaGreatDoor.killRows hp) b→fH ρ hp b:=fun b ⟨j,y,m,hy,hd,hk⟩=>⟨j,y,m,fp hy hd,hd,hk⟩
 have hok:∀ b,okB E ρ hp w b→okB E ρ (_root_.Go.Proofs.YtjcooccnfkfjhaaGreatDoor.killRows hp) w b∧w.heap[b]?=w.heap[b]?:=fun b ⟨h1,h2,h3⟩=>⟨⟨h1,h2,fun hl=>h3 (hlive b hl)⟩,rfl⟩
 refine⟨⟨by rw[lY];exact h.len,fun j y b m hy hk hd=>?_,fun j y hy hk=>?_,fun j j' y y' b m m' hy hy' hd hd' hk hk'=>?_,h.fr⟩,fun _ _ hk=>hk,hok⟩
 ·obtain⟨q1,o,q2,q3⟩:=h.obj j y b m (fp hy hd) hk hd
  exact⟨q1,o,q2,q3.mono (fun _ _ hh=>hh) hok⟩
 ·by_cases hd:y=.dead
  ·exact .inl hd
  ·exact h.nil j y (fp hy hd) hk
 ·exact h.inj j j' y y' b m m' (fp hy hd) (fp hy' hd') hd hd' hk hk'
end
end Go.Proofs.YtjcooccnfkfjhaaGreatDoor
namespace Go.Proofs.YtjcooccnfkfjhaaGreatDoor
set_option linter.unusedVariables false
set_option linter.unusedSimpArgs false
open Go Go.RowKit
def Fh:Value→Bool
 |.slice _ _ _=>true
 |_=>false
mutual
def bv:AV→Option Value
 |.d (.int k n)=>some (.int k n)
 |.d (.bool b)=>some (.bool b)
 |.d (.str l)=>some (aW l)
 |.d (.sc v)=>if v.oneCell'=true∧Fh v=false then some v else none
 |.tup vs=>(gG vs).map fun l=>.tuple l.toArray
 |.agg cs=>(gG cs).bind fun l=>if l.all (·.oneCell') then some (.agg l.toArray) else none
 |_=>none
def gG:List AV→Option (List Value)
 |[]=>some []
 | x::r=>match bv x,gG r with
   |some u,some l=>some (u::l)
   |_,_=>none
end
section
variable {P:Program} {T:TypeId→TI} {E:Ent} {s:ASt} {ρ ρ':List (Option (Nat×Nat))} {a:Act} {w w':World} {hp:List ABlk} {ok ok':Nat→Prop}
theorem gc:∀{cs:List AV} {l:List Value},gG cs=some l→l.length=cs.length∧∀(j:Nat) (x:AV),cs[j]?=some x→∃ u,l[j]?=some u∧bv x=some u
 |[],l,h=>by simp[gG] at h;subst h;exact⟨rfl,by simp⟩
 | x :: r,l,h=>by
   simp only[gG] at h;cases h1:bv x with
   |none=>simp[h1] at h
   | some u=>
     cases h2:gG r with
     |none=>simp[h1,h2] at h
     | some l'=>
       simp[h1,h2] at h;subst h;obtain⟨a1,a2⟩:=gc h2;refine⟨by simp[a1],fun j y hy=>?_⟩
       match j with
       |0=>simp at hy;subst hy;exact⟨u,rfl,h1⟩
       |j+1=>simpa using a2 j y (by simpa using hy)
theorem sR{x:AV}{u:Value}(h:RepV ρ ok w x u):∀ u0,bv x=some u0→u=u0:=by
 induction h with
 | d x v h=>
   intro u0 e;cases h with
   |int k n=>simp[bv] at e;exact e
   |bool b=>simp[bv] at e;exact e
   |str l=>simp[bv] at e;exact e
   |sc v h1=>simp[bv,h1] at e;exact e.2
   |sc0 A=>simp[bv,Fh] at e
   |sl=>simp[bv] at e
 | agg cs us hl h1 hr ih=>
   intro u0 e;simp only[bv,UF] at e;obtain⟨l,hl',e⟩:=e;split at e
   ·injection e with e
    subst e;obtain⟨a1,a2⟩:=gc hl';congr 2;apply SR;intro j
    by_cases hj:j<cs.length
    ·obtain⟨u,hu,hs⟩:=a2 j _ (RH hj)
     have hju:j<us.length:=by omega
     rw[hu,RH hju];rw[ih j _ _ (RH hj) (RH hju) u hs]
    ·rw[R9 (by omega),R9 (by omega)]
   ·cases e
 | tup cs us hl hr ih=>
   intro u0 e;simp only[bv,RY] at e;obtain⟨l,hl',e⟩:=e;subst e;obtain⟨a1,a2⟩:=gc hl';congr 2;apply SR;intro j
   by_cases hj:j<cs.length
   ·obtain⟨u,hu,hs⟩:=a2 j _ (RH hj)
    have hju:j<us.length:=by omega
    rw[hu,RH hju];rw[ih j _ _ (RH hj) (RH hju) u hs]
   ·rw[R9 (by omega),R9 (by omega)]
 |_=>intro u0 e;simp[bv] at e
mutual
theorem mP:∀(x:AV) (u:Value),bv x=some u→RepV ρ ok w x u
 |.d (.int k n),u,h=>by simp[bv] at h;subst h;exact .d _ _ (.int _ _)
 |.d (.bool b),u,h=>by simp[bv] at h;subst h;exact .d _ _ (.bool _)
 |.d (.str l),u,h=>by simp[bv] at h;subst h;exact .d _ _ (.str _)
 | .d (.sc v),u,h=>by
   simp only[bv] at h;split at h
   ·rename_i h1;injection h with h;subst h;exact .d _ _ (.sc _ h1.1)
   ·cases h
 |.d (.sl _ _),u,h=>by simp[bv] at h
 | .tup vs,u,h=>by
   simp only[bv,RY] at h;obtain⟨l,hl,rfl⟩:=h;obtain⟨a1,a2⟩:=gc hl;exact .tup _ _ a1 (qM vs l hl)
 | .agg cs,u,h=>by
   simp only[bv,UF] at h;obtain⟨l,hl,h⟩:=h;split at h
   ·rename_i h1
    injection h with h;subst h;obtain⟨a1,a2⟩:=gc hl;exact .agg _ _ a1 (by simpa using h1) (qM cs l hl)
   ·cases h
 |.ptr _ _,u,h=>by simp[bv] at h
 |.rp _ _ _ _,u,h=>by simp[bv] at h
 |.osl _ _ _ _,u,h=>by simp[bv] at h
 |.dp _ _,u,h=>by simp[bv] at h
 |.clo _ _ _,u,h=>by simp[bv] at h
 |.gd _ _,u,h=>by simp[bv] at h
 |.mp _,u,h=>by simp[bv] at h
 |.any,u,h=>by simp[bv] at h
theorem qM:∀(cs:List AV) (l:List Value),gG cs=some l→∀(j:Nat) (x:AV) (u:Value),cs[j]?=some x→l[j]?=some u→RepV ρ ok w x u
 |[],l,h,j,x,u,hx,hu=>by simp at hx
 | y :: r,l,h,j,x,u,hx,hu=>by
   simp only[gG] at h;cases h1:bv y with
   |none=>simp[h1] at h
   | some v=>
     cases h2:gG r with
     |none=>simp[h1,h2] at h
     | some l'=>
       simp[h1,h2] at h;subst h
       match j with
       |0=>simp at hx hu;subst hx;subst hu;exact mP y v h1
       |j+1=>exact qM r l' h2 j x u (by simpa using hx) (by simpa using hu)
end
theorem rb{g:FuncId}{xs:List AV}{x:AV}{u0:Value}(c:ab P [] g (dh hp xs) (fun v _=>v=x))(hsc:bv x=some u0)(hf:ch hp xs)(hn:cF (dh hp xs)) :
  zL P hp g xs x:=by
 refine⟨c.1,fun E ρ w us hH hus=>⟨u0,mP x u0 hsc,fun w' hb=>?_⟩⟩
 let E':Ent:={ w0:=w',L0:=fun _=>False,S0:=fun b=>b<w.heap.size,ρ0:=[],hS:=fun b h=>⟨SL h hb.size,fun h=>h⟩,hL:=fun b h=>h.elim,hT:=hH.tabsAt.below hb,hTL:=fun _ _ h=>h }
 have hnl:∀ b,¬ fH [] [] b:=fun b ⟨k,x,m,hx,_⟩=>by simp at hx
 have hE:X5 E' [] [] w':=⟨rfl,by simp,by simp,by simp,Fr.refl _ _⟩
 have hargs:ia [] (okB E' [] [] w') w' (dh hp xs) us:=by
  refine⟨by rw[fd];exact hus.1,fun j y u hy hu=>?_⟩;have hy0:=hy;rw[eC] at hy;obtain⟨z,hz,rfl⟩:=RY.1 hy
  have h1:=La (ok':=fun b=>b<w.heap.size) hH.blks (fun b hb=>hb.2.1) (fun k b m sz rs hk hb=>by
   obtain⟨_,us,ty,fz,q2,_⟩:=hH.blk k _ b m hk hb (by simp)
   exact a8 q2) (hus.2 j z u hz hu) (eq hf hz) (dc hn hy0)
  exact jc (fun b hb'=>⟨⟨.inl hb',SL hb' hb.size,hnl b⟩,hb.block b hb'⟩) h1 (dc hn hy0)
 refine(c.2 E' w' us rfl hE hargs).mono fun e w'' hh=>?_
 obtain⟨u,v,hp',ρ',h1,h2,h3,h4,h5⟩:=hh;subst h2;refine⟨by rw[h1,sR h5 u0 hsc],h3.fr.os,h3.fr.tape,h3.fr.output,h3.fr.size,fun k hk=>h3.fr.block k hk (fun h=>h)⟩
theorem AE{g:FuncId}{xs:List AV}{x:AV}{K:AV→List ABlk→Prop}(h:zL P hp g xs x)(hK:K x hp):qO P hp g xs K:=by
 refine⟨h.1,fun E ρ w us hH hus=>?_⟩;obtain⟨u,hu,hrun⟩:=h.2 E ρ w us hH hus;refine(hrun w (jg w)).mono fun e w' ⟨h1,h2⟩=>?_
 have hs:=HStep.below hH h2;exact⟨u,x,hp,ρ,h1,hK,hs,hu.step hs⟩
theorem su{g:FuncId}{xs:List AV}{x:AV}{u0:Value}{K:AV→List ABlk→Prop}(c:ab P [] g (dh hp xs) (fun v _=>v=x))(hsc:bv x=some u0)(hf:ch hp xs)
  (hn:cF (dh hp xs)) (hK:K x hp):qO P hp g xs K:=AE (rb c hsc hf hn) hK
def bN(m:List Nat)(n k:Nat):Nat:=match m[k]? with|some j=>j|none=>k-m.length+n
def bZ(f:Nat→Nat):List ABlk→List Nat→List ABlk→List ABlk
 |hp,i::m,x::r=>bZ f (hp.set i (renB f x)) m r
 |hp,_,_=>hp
def d9(f:Nat→Nat)(l:List ABlk):List ABlk:=l.map (renB f)
theorem fG{f:Nat→Nat}:∀{m:List Nat} {hp:List ABlk} {r:List ABlk},(bZ f hp m r).length=hp.length
 |[],hp,r=>by cases r<;>simp[bZ]
 |i::m,hp,[]=>by simp[bZ]
 |i::m,hp,x::r=>by simp only[bZ];rw[fG];simp
theorem uU{f:Nat→Nat}:∀{m:List Nat} {hp:List ABlk} {r:List ABlk},m.Nodup→m.length≤r.length→(∀ i,i∈m→i<hp.length)→∀(j:Nat) (y:ABlk),(bZ f hp m r)[j]?=some y→
  (j∉m∧hp[j]?=some y)∨∃(i:Nat) (x:ABlk),m[i]?=some j∧r[i]?=some x∧y=renB f x
 | [],hp,r,_,_,_,j,y,h=>by
   have:bZ f hp [] r=hp:=by cases r<;>simp[bZ]
   rw[this] at h;exact .inl ⟨by simp,h⟩
 |i::m,hp,[],_,hl,_,j,y,h=>by simp at hl
 | i :: m,hp,x::r,hnd,hl,hm,j,y,h=>by
   simp only[bZ] at h;have hnd':=Sj.1 hnd;rcases uU hnd'.2 (by simpa using hl) (fun k hk=>by simpa using hm k (Si _ hk)) j y h with⟨h1,h2⟩|⟨k,z,h1,h2,h3⟩
   ·rcases am h2 with⟨e,e',_⟩|⟨hne,h3⟩
    ·subst e;exact .inr ⟨0,x,by simp,by simp,e'⟩
    ·exact .inl ⟨fun hh=>(RW.1 hh).elim (fun e=>hne e) (fun e=>h1 e),h3⟩
   ·exact .inr ⟨k+1,z,by simpa using h1,by simpa using h2,h3⟩
theorem k7{g:FuncId}(m:List Nat){chp:List ABlk}{cargs:List AV}{R:AV→List ABlk→Prop}{K:AV→List ABlk→Prop}(c:ab P chp g cargs R)
  (hcl:chp.length=m.length) (hnd:m.Nodup) (hm:∀ i,i∈m→i<hp.length) (hargs:inL m.length cargs) (hchp:mT (mAt m hp.length) m.length hp 0 chp)
  (hK:∀ v hp',R v hp'→K (renV (bN m hp.length) v) (bZ (bN m hp.length) hp m hp'++d9 (bN m hp.length) (hp'.drop m.length))) :
  qO P hp g (renL (mAt m hp.length) cargs) K:=by
 refine⟨c.1,fun E ρ w us hH hus=>?_⟩;have hlen:=hH.len
 have hmi:∀(i j x:Nat),m[i]?=some x→m[j]?=some x→i=j:=by
  intro i j x hi hj;obtain⟨hi1,hi2⟩:=RM.1 hi;obtain⟨hj1,hj2⟩:=RM.1 hj;have hpw:=SZ.1 hnd;rcases TR i j with hlt|heq|hgt
  ·exact absurd (hi2.trans hj2.symm) (hpw i j hi1 hj1 hlt)
  ·exact heq
  ·exact absurd (hj2.trans hi2.symm) (hpw j i hj1 hi1 hgt)
 let ρc:List (Option (Nat×Nat)):=m.map fun i=>(ρ[i]?).getD none
 have hρc:∀(k:Nat) (p:Option (Nat×Nat)),ρc[k]?=some p↔∃ x,m[k]?=some x∧ρ[x]?=some p:=by
  intro k p;simp only[ρc,RS,RY];constructor
  ·rintro⟨x,hx,e⟩
   have hxl:x<ρ.length:=by rw[hlen];exact hm x (Sl hx)
   rw[RH hxl] at e;exact⟨x,hx,by rw[RH hxl];simpa using e⟩
  ·rintro⟨x,hx,e⟩
   exact⟨x,hx,by rw[e];rfl⟩
 have hdown:∀(k:Nat) (p:Option (Nat×Nat)),k<m.length→ρ[mAt m hp.length k]?=some p→ρc[k]?=some p:=by
  intro k p hk hp'
  have:mAt m hp.length k=m[k]:=by simp[mAt,RH hk]
  rw[this] at hp';exact(hρc k p).2 ⟨m[k],RH hk,hp'⟩
 have hblk:∀(j:Nat) (x:ABlk) (p:Option (Nat×Nat)),chp[j]?=some x→x≠.dead→ρc[j]?=some p→∃ i,m[j]?=some i∧hp[i]?=some (renB (mAt m hp.length) x)∧inB m.length x∧ρ[i]?=some p:=by
  intro j x p hx hd hpj;rcases tT hchp j x hx with e|⟨h1,h2⟩
  ·exact absurd e hd
  ·rw[SO] at h1
   obtain⟨i,hi,hip⟩:=(hρc j p).1 hpj
   have:mAt m hp.length j=i:=by simp[mAt,hi]
   rw[this] at h1;exact⟨i,hi,h1,h2,hip⟩
 have hlivec:∀ b,fH ρc chp b→fH ρ hp b:=by intro b ⟨k,x,q,hx,hd,hk⟩;obtain⟨i,_,h1,_,h2⟩:=hblk k x _ hx hd hk;exact⟨i,_,q,h1,db hd,h2⟩
 let E':Ent:={ w0:=w,L0:=fun b=>fH ρc chp b,S0:=fun b=>okB E ρ hp w b,ρ0:=ρc,hS:=fun b h=>⟨h.2.1,fun hl=>h.2.2 (hlivec b hl)⟩,hL:=fun b ⟨k,_,q,_,_,hk⟩=>⟨k,q,hk⟩,hT:=hH.tabsAt,hTL:=fun p hp' hl=>hH.tabLive hp' (hlivec _ hl) }
 have hokc:∀ b,okB E ρ hp w b→okB E' ρc chp w b∧w.heap[b]?=w.heap[b]?:=fun b hb=>⟨⟨.inl hb,hb.2.1,fun hl=>hb.2.2 (hlivec b hl)⟩,rfl⟩
 have hE : X5 E' ρc chp w:=by
  refine⟨by simp[ρc,hcl],fun k x b q hx hk hd=>?_,fun k x hx hk=>?_,fun k k' x x' b q q' hx hx' hd hd' hk hk'=>?_,Fr.refl _ _⟩
  ·obtain⟨i,_,h1,h2,h3⟩:=hblk k x _ hx hd hk
   obtain⟨q1,o,q2,q3⟩:=hH.obj i _ b q h1 h3 (db hd);exact⟨.inl ⟨k,x,q,hx,hd,hk⟩,o,q2,Ae hdown hokc q3 h2⟩
  ·by_cases hd:x=.dead
   ·exact .inl hd
   ·obtain⟨i,_,h1,h2,h3⟩:=hblk k x _ hx hd hk
    rcases hH.nil i _ h1 h3 with e|⟨sz,e⟩
    ·exact absurd e (db hd)
    ·right
     cases x with
     |cells cs=>simp[renB] at e
     |rows sz' rs=>simp[renB] at e;exact⟨sz',by rw[e.2]⟩
     |full sz' rs=>simp[renB] at e
     |bytes l=>simp[renB] at e
     |map es=>simp[renB] at e
     |iter k a b c=>simp[renB] at e
     |dead=>simp[renB] at e
  ·obtain⟨i,a1,h1,_,h3⟩:=hblk k x _ hx hd hk
   obtain⟨i',a1',h1',_,h3'⟩:=hblk k' x' _ hx' hd' hk'
   have:=hH.inj i i' _ _ b q q' h1 h1' (db hd) (db hd') h3 h3';subst this;exact hmi k k' i a1 a1'
 have hav:ia ρc (okB E' ρc chp w) w cargs us:=by refine⟨by rw[hus.1,cL],fun j x u hx hu=>?_⟩;exact ug hdown hokc (hus.2 j (renV (mAt m hp.length) x) u (by rw[eA,hx];rfl) hu) x rfl (lr hargs hx)
 refine(c.2 E' w us rfl hE hav).mono fun e w' hh=>?_
 obtain⟨u,v,hp',ρ',h1,h2,h3,h4,h5⟩:=hh
 -- the caller's names behind the call
 have hl3:=h3.len
 have hml:m.length≤ρ'.length:=by
  rcases TC m.length with h0|h0
  ·omega
  ·have hlast:m.length-1<ρc.length:=by simp[ρc];omega
   have:=(RM.1 (h4 (m.length-1) _ (RH hlast))).1;omega
 let ρ2:List (Option (Nat×Nat)):=ρ++ρ'.drop m.length
 have hup1:∀(k:Nat) (p:Option (Nat×Nat)),ρ[k]?=some p→ρ2[k]?=some p:=fun k p hk=>by have:=(RM.1 hk).1;simp only[ρ2];rw[R2 this];exact hk
 have hren:∀(k:Nat) (p:Option (Nat×Nat)),ρ'[k]?=some p→ρ2[bN m hp.length k]?=some p:=by
  intro k p hk
  by_cases hkm:k<m.length
  ·have hmk:m[k]?=some m[k]:=RH hkm
   have:bN m hp.length k=m[k]:=by simp[bN,hmk]
   rw[this];refine hup1 _ _ ?_;have hml':m[k]<ρ.length:=by rw[hlen];exact hm _ (SD hkm)
   have hρk:ρc[k]?=some ρ[m[k]]:=(hρc k _).2 ⟨m[k],hmk,RH hml'⟩
   have:=h4 k _ hρk;rw[this] at hk;injection hk with hk;rw[←hk];exact RH hml'
  ·have hmk:m[k]?=none:=R9 (by omega)
   have:bN m hp.length k=k-m.length+hp.length:=by simp[bN,hmk]
   rw[this];simp only[ρ2];rw[RT (by omega),SM];rw[show m.length+(k-m.length+hp.length-ρ.length)=k from by omega];exact hk
 -- who is live behind the call
 have back:∀(j:Nat) (y:ABlk) (p:Option (Nat×Nat)),(bZ (bN m hp.length) hp m hp'++d9 (bN m hp.length) (hp'.drop m.length))[j]?=some y→y≠.dead→ρ2[j]?=some p→
   (j∉m∧hp[j]?=some y∧ρ[j]?=some p)∨∃(i:Nat) (x:ABlk),bN m hp.length i=j∧hp'[i]?=some x∧x≠.dead∧y=renB (bN m hp.length) x∧ρ'[i]?=some p:=by
  intro j y p hy hd hj
  by_cases hjl:j<hp.length
  ·rw[R2 (by rw[fG];exact hjl)] at hy
   have hj':ρ[j]?=some p:=by
    have:j<ρ.length:=by omega
    simp only[ρ2] at hj;rwa[R2 this] at hj
   rcases uU hnd (by rw[←hl3];exact hml) hm j y hy with⟨a1,a2⟩|⟨i,x,a1,a2,a3⟩
   ·exact .inl ⟨a1,a2,hj'⟩
   ·refine .inr ⟨i,x,by simp[bN,a1],a2,fun e=>by subst e;subst a3;exact hd rfl,a3,?_⟩
    exact h4 i p ((hρc i p).2 ⟨j,a1,hj'⟩)
  ·rw[RT (by rw[fG];omega),fG] at hy
   simp only[d9,RS] at hy;obtain⟨x,hx,rfl⟩:=RY.1 hy;rw[SM] at hx;simp only[ρ2] at hj;rw[RT (by omega),SM] at hj;refine .inr ⟨m.length+(j-hp.length),x,?_,hx,fun e=>by subst e;exact hd rfl,rfl,by rw[←hlen] at *;exact hj⟩
   have:m[m.length+(j-hp.length)]?=none:=R9 (by omega);simp only[bN,this];omega
 have hlive2:∀ b,fH ρ2 (bZ (bN m hp.length) hp m hp'++d9 (bN m hp.length) (hp'.drop m.length)) b→fH ρ hp b∨fH ρ' hp' b:=by
  intro b ⟨j,y,q,hy,hd,hj⟩;rcases back j y _ hy hd hj with⟨_,a2,a3⟩|⟨i,x,_,a2,a3,_,a5⟩
  ·exact .inl ⟨j,y,q,a2,hd,a3⟩
  ·exact .inr ⟨i,x,q,a2,a3,a5⟩
 -- what the callee's blocks are
 have hcb:∀ b,fH ρ' hp' b→(fH ρc chp b∨w.heap.size≤b):=by intro b ⟨i,x,q,hx,hd,hi⟩;exact(h3.obj i x b q hx hi hd).1
 have hsz0:=hH.fr.size
 have hokE:∀ b,okB E' ρ' hp' w' b→okB E ρ2 (bZ (bN m hp.length) hp m hp'++d9 (bN m hp.length) (hp'.drop m.length)) w' b∧w'.heap[b]?=w'.heap[b]?:=by
  intro b ⟨b1,b2,b3⟩;refine⟨⟨?_,b2,fun hl=>?_⟩,rfl⟩
  ·rcases b1 with b1|b1
   ·exact b1.1
   ·exact .inr (R8 hsz0 b1)
  ·rcases hlive2 b hl with hl|hl
   ·rcases b1 with b1|b1
    ·exact b1.2.2 hl
    ·have:=hH.live_lt hl
     have hb1:w.heap.size≤b:=b1;omega
   ·exact b3 hl
 have hokC:∀ b,okB E ρ hp w b→okB E ρ2 (bZ (bN m hp.length) hp m hp'++d9 (bN m hp.length) (hp'.drop m.length)) w' b∧w'.heap[b]?=w.heap[b]?:=by
  intro b ⟨b1,b2,b3⟩;refine⟨⟨b1,SL b2 h3.fr.size,fun hl=>?_⟩,h3.fr.block b b2 (fun hl=>b3 (hlivec b hl))⟩;rcases hlive2 b hl with hl|hl
  ·exact b3 hl
  ·rcases hcb b hl with hl|hl
   ·exact b3 (hlivec b hl)
   ·omega
 have hstep:HStep E ρ hp w ρ2 (bZ (bN m hp.length) hp m hp'++d9 (bN m hp.length) (hp'.drop m.length)) w':=by
  refine⟨⟨?_,fun j y b q hy hj hd=>?_,fun j y hy hj=>?_,fun j j' y y' b q q' hy hy' hd hd' hj hj'=>?_,?_⟩,hup1,hokC⟩
  ·simp[ρ2,fG,d9,hlen,hl3]
  ·rcases back j y _ hy hd hj with⟨a1,a2,a3⟩|⟨i,x,a1,a2,a3,a4,a5⟩
   ·obtain⟨q1,o,q2,q3⟩:=hH.obj j y b q a2 a3 hd
    have hbl:w'.heap[b]?=w.heap[b]?:=h3.fr.block b (a8 q2) (fun hl=>by
     obtain⟨k,x,q',hx,hxd,hk⟩:=hl;obtain⟨i,hi,c1,_,c2⟩:=hblk k x _ hx hxd hk
     have:=hH.inj j i y _ b q q' a2 c1 hd (db hxd) a3 c2;subst this
     exact a1 (Sl hi))
    exact⟨q1,o,hbl.trans q2,q3.mono hup1 hokC⟩
   ·subst a4
    obtain⟨q1,o,q2,q3⟩:=h3.obj i x b q a2 a5 a3;refine⟨?_,o,q2,PI hren hokE q3⟩;rcases q1 with⟨k,z,q',hz,hzd,hk⟩|q1
    ·obtain⟨i',_,c1,_,c2⟩:=hblk k z _ hz hzd hk
     exact(hH.obj i' _ b q' c1 c2 (db hzd)).1
    ·exact .inr (R8 hsz0 q1)
  ·by_cases hd:y=.dead
   ·exact .inl hd
   ·rcases back j y _ hy hd hj with⟨a1,a2,a3⟩|⟨i,x,a1,a2,a3,a4,a5⟩
    ·exact hH.nil j y a2 a3
    ·subst a4
     rcases h3.nil i x a2 a5 with e|⟨sz,e⟩
     ·exact absurd e a3
     ·subst e;exact .inr ⟨sz,rfl⟩
  ·have cross:∀(j i:Nat) (y x:ABlk) (q q':Nat),j∉m→hp[j]?=some y→y≠.dead→ρ[j]?=some (some (b,q))→hp'[i]?=some x→x≠.dead→ρ'[i]?=some (some (b,q'))→False:=by
    intro j i y x q q' a1 a2 hyd a3 b2 b3 b5;rcases hcb b ⟨i,x,q',b2,b3,b5⟩ with⟨k,z,q'',hz,hzd,hk⟩|hge
    ·obtain⟨i',hi',c1,_,c2⟩:=hblk k z _ hz hzd hk
     have:=hH.inj j i' y _ b q q'' a2 c1 hyd (db hzd) a3 c2;subst this;exact a1 (Sl hi')
    ·have:=hH.live_lt ⟨j,y,q,a2,hyd,a3⟩
     omega
   rcases back j y _ hy hd hj with⟨a1,a2,a3⟩|⟨i,x,a1,a2,a3,a4,a5⟩
   ·rcases back j' y' _ hy' hd' hj' with⟨b1,b2,b3⟩|⟨i',x',b1,b2,b3,b4,b5⟩
    ·exact hH.inj j j' y y' b q q' a2 b2 hd hd' a3 b3
    ·exact(cross j i' y x' q q' a1 a2 hd a3 b2 b3 b5).elim
   ·rcases back j' y' _ hy' hd' hj' with⟨b1,b2,b3⟩|⟨i',x',b1,b2,b3,b4,b5⟩
    ·exact(cross j' i y' x q' q b1 b2 hd' b3 a2 a3 a5).elim
    ·have:=h3.inj i i' x x' b q q' a2 b2 a3 b3 a5 b5
     subst this;rw[←a1,←b1]
  ·refine⟨h3.fr.os.trans hH.fr.os,h3.fr.tape.trans hH.fr.tape,h3.fr.output.trans hH.fr.output,R8 hsz0 h3.fr.size,fun b hb hL=>?_⟩
   have:w'.heap[b]?=w.heap[b]?:=h3.fr.block b (SL hb hsz0) (fun hl=>by
    obtain⟨k,q,x,hx,hd,hk⟩:=hlivec b hl;rcases(hH.obj k q b x hx hk hd).1 with c1|c1
    ·exact hL c1
    ·omega)
   exact this.trans (hH.fr.block b hb hL)
 exact⟨u,_,_,ρ2,h1,hK v hp' h2,hstep,KE hren hokE h5⟩
theorem BK{g:FuncId}{xs:List AV}{R:AV→List ABlk→Prop}{K:AV→List ABlk→Prop}(c:ab P [] g xs R)(hargs:inL 0 xs)(hid:renL (mAt [] hp.length) xs=xs)
  (hK:∀ v hp',R v hp'→K (renV (bN [] hp.length) v) (hp++d9 (bN [] hp.length) hp')):qO P hp g xs K:=by
 have:=k7 (hp:=hp) [] (chp:=[]) (cargs:=xs) (R:=R) (K:=K) c rfl Sr (by simp) hargs (by simp[mT]) (fun v hp' h=>by
  have:=hK v hp' h;have e:bZ (bN [] hp.length) hp [] hp'=hp:=by cases hp'<;>simp[bZ]
  rw[e]
  simpa using this)
 rwa[hid] at this
theorem ab.mono{g:FuncId}{xs:List AV}{R R':AV→List ABlk→Prop}(c:ab P hp g xs R)(h:∀ v hp',R v hp'→R' v hp'):ab P hp g xs R':=
 ⟨c.1,fun E w us h1 h2 h3=>(c.2 E w us h1 h2 h3).mono fun _ _ ⟨u,v,hp',ρ',q1,q2,q3⟩=>⟨u,v,hp',ρ',q1,h v hp' q2,q3⟩⟩
end
end Go.Proofs.YtjcooccnfkfjhaaGreatDoor
namespace Go.Proofs.YtjcooccnfkfjhaaGreatDoor
set_option linter.unusedVariables false
set_option linter.unusedSimpArgs false
open Go Go.RowKit
def Kj(v:Value)(d:DV):Bool:=
 match d,v with
 |.int k n,.int k' n'=>k==k'&&n==n'
 |.bool b,.bool b'=>b==b'
 |.str l,.string s=>s.data.toList==l
 |.sc (.pointer none),.pointer none=>true
 |.sc (.slice none 0 0),.slice none 0 0=>true
 |.sc (.map none),.map none=>true
 |.sc .nilFunc,.nilFunc=>true
 |.sc .nilIface,.nilIface=>true
 |_,_=>false
theorem H9{v:Value}{d:DV}(h:Kj v d=true):v=d.val∧d.val.oneCell'=true∧∀ sz rs,d≠.sl sz rs:=by
 unfold Kj at h;split at h
 ·simp at h;obtain⟨rfl,rfl⟩:=h;exact⟨rfl,rfl,by simp⟩
 ·simp at h;subst h;exact⟨rfl,rfl,by simp⟩
 ·rename_i l s
  simp at h;subst h;exact⟨by simp[DV.val,aW],rfl,by simp⟩
 ·exact⟨rfl,rfl,by simp⟩
 ·exact⟨rfl,rfl,by simp⟩
 ·exact⟨rfl,rfl,by simp⟩
 ·exact⟨rfl,rfl,by simp⟩
 ·exact⟨rfl,rfl,by simp⟩
 ·cases h
def oC:List Value→List DV→Bool
 |[],[]=>true
 |v::l,d::r=>Kj v d&&oC l r
 |_,_=>false
theorem qQ:∀{l:List Value} {r:List DV},oC l r=true→l=r.map DV.val∧∀ x,x∈r→x.val.oneCell'=true∧∀ sz rs,x≠.sl sz rs
 |[],[],_=>⟨rfl,by simp⟩
 | v::l,d::r,h=>by
   simp only[oC,RU] at h;obtain⟨h1,h2,h3⟩:=H9 h.1;obtain⟨h4,h5⟩:=qQ h.2;refine⟨by rw[TL,←h1,←h4],fun x hx=>?_⟩;rcases RW.1 hx with rfl|hx
   ·exact⟨h2,h3⟩
   ·exact h5 x hx
 |[],_::_,h=>by simp[oC] at h
 |_::_,[],h=>by simp[oC] at h
def Mc(P:Program)(t s:Nat):Bool:=match P.info? t with|some i=>i.size==s&&!(s==0)|none=>false
def kB(P:Program):List Field→List (Nat×Nat×TypeId)→Bool
 |[],[]=>true
 |f::l,(o,s,t)::r=>f.offset==o&&f.type==t&&Mc P t s&&kB P l r
 |_,_=>false
theorem rP{P:Program}:∀{l:List Field} {r:List (Nat×Nat×TypeId)},kB P l r=true→l.length=r.length∧
  ∀(j:Nat) (o s t:Nat),r[j]?=some (o,s,t)→∃ f,l[j]?=some f∧f.offset=o∧f.type=t∧s≠0∧∃ i,P.info? t=some i∧i.size=s
 |[],[],_=>⟨rfl,by simp⟩
 | f :: l,(o,s,t)::r,h=>by
   simp only[kB,RU,R1] at h;obtain⟨⟨⟨h1,h2⟩,h3⟩,h4⟩:=h;obtain⟨h5,h6⟩:=rP h4;refine⟨by simp[h5],fun j o' s' t' hj=>?_⟩
   match j with
   | 0 =>
     simp at hj;obtain⟨rfl,rfl,rfl⟩:=hj;unfold Mc at h3;cases hi:P.info? t with
     |none=>simp[hi] at h3
     | some i=>
       simp[hi] at h3;exact⟨f,rfl,h1,h2,h3.2,i,rfl,h3.1⟩
   |j+1=>simpa using h6 j o' s' t' (by simpa using hj)
 |[],_::_,h=>by simp[kB] at h
 |_::_,[],h=>by simp[kB] at h
def Ct(P:Program)(d:TypeDesc)(k:TK):Bool:=
 match k,d with
 |.int a,.int b=>a==b
 |.bool,.bool=>true
 |.str,.string=>true
 |.slice a,.slice b=>a==b
 |.struct fs,.struct fields=>kB P fields.toList fs
 |.array n e,.array n' e'=>n==n'&&e==e'
 |.pointer e,.pointer e'=>e==e'
 |.map a b,.map a' b'=>a==a'&&b==b'
 |.func,.func _ _ _=>true
 |_,_=>false
theorem xn{P:Program}{d:TypeDesc}{k:TK}(h:Ct P d k=true):Kz P d k:=by
 unfold Ct at h;split at h
 ·simp at h;subst h;rfl
 ·rfl
 ·rfl
 ·simp at h;subst h;rfl
 ·rename_i fs fields
  obtain⟨h1,h2⟩:=rP h
  exact⟨fields,rfl,by simpa using h1,fun j o s t hj=>by
   obtain⟨f,q1,q2⟩:=h2 j o s t hj
   exact⟨f,by simpa using q1,q2⟩⟩
 ·simp at h;obtain⟨rfl,rfl⟩:=h;rfl
 ·simp at h;subst h;rfl
 ·simp at h;obtain⟨rfl,rfl⟩:=h;rfl
 ·exact⟨_,_,_,rfl⟩
 ·cases h
def Ir(z:Option Value)(ti:TI):Bool:=
 match z with
 |some (.agg cs)=>ti.agg&&oC cs.toList ti.zero
 |some v=>!ti.agg&&oC [v] ti.zero
 |none=>false
def P1:TK→TK→Bool
 |.int k,.int k'=>k==k'
 |.bool,.bool=>true
 |.str,.str=>true
 |_,_=>false
def wU:List TK→List TK→Bool
 |[],[]=>true
 |a::l,b::r=>P1 a b&&wU l r
 |_,_=>false
theorem Bk:∀{l r:List TK},wU l r=true→l=r
 |[],[],_=>rfl
 | a::l,b::r,h=>by
   simp only[wU,RU] at h;rw[Bk h.2];have h1:=h.1;unfold P1 at h1;split at h1<;>first|rfl|(simp at h1;rw[h1])|cases h1
 |[],_::_,h=>by simp[wU] at h
 |_::_,[],h=>by simp[wU] at h
def I6(P:Program)(t:TypeId)(ks:List TK):Bool:=
 (match iq P 8 t with|some l=>wU l ks|none=>false)&&!(P.eqGuardType P.depth t)&&(match P.underlying t with|some (.struct _)=>true|_=>false)
theorem Lk{P:Program}{t:TypeId}{ks:List TK}(h:I6 P t ks=true):KO P t ks:=by
 simp only[I6,RU,SY] at h;obtain⟨⟨h1,h2⟩,h3⟩:=h;refine⟨?_,h2,?_⟩
 ·split at h1
  ·rename_i l e;rw[e,Bk h1]
  ·cases h1
 ·split at h3
  ·rename_i fs e;exact⟨fs,e⟩
  ·cases h3
def sP(P:Program)(t:TypeId)(ti:TI):Bool:=
 match P.info? t,P.underlying t with
 |some i,some d=>i.size==ti.size&&i.bytes==ti.bytes&&Ir i.zero ti&&Ct P d ti.kind&&ti.zero.length==ti.size&&(ti.cmp.isEmpty||I6 P t ti.cmp)
 |_,_=>false
theorem CT{P:Program}{t:TypeId}{ti:TI}(h:sP P t ti=true):TyOk P t ti:=by
 unfold sP at h;split at h
 ·rename_i i d hi hd
  simp only[RU,R1] at h;obtain⟨⟨⟨⟨⟨h1,h2⟩,h3⟩,h4⟩,h5⟩,hcm⟩:=h
  have hcm:ti.cmp≠[]→KO P t ti.cmp:=fun hne=>by
   simp only[SQ,List.isEmpty_iff] at hcm;rcases hcm with e|e
   ·exact absurd e hne
   ·exact Lk e
  unfold Ir at h3;split at h3
  ·rename_i cs hz
   simp only[RU] at h3;obtain⟨h6,h7⟩:=h3;obtain⟨h8,h9⟩:=qQ h7;refine⟨⟨i,_,hi,h1,h2,hz,?_⟩,⟨d,hd,xn h4⟩,h9,h5,hcm⟩;rw[RJ h6,←h8]
  ·rename_i v _ hz
   simp only[RU,SY] at h3;obtain⟨h6,h7⟩:=h3;obtain⟨h8,h9⟩:=qQ h7;refine⟨⟨i,_,hi,h1,h2,hz,?_⟩,⟨d,hd,xn h4⟩,h9,h5,hcm⟩;rw[h6,RI (by simp),←h8]
  ·cases h3
 ·cases h
def TI.none:TI:={ size:=0,bytes:=0,zero:=[],kind:=.other }
def xz(l:List (Nat×TI))(t:TypeId):TI:=
 match l with
 |[]=>TI.none
 |(k,ti)::r=>if k=t then ti else xz r t
theorem BT{P:Program}:∀{l:List (Nat×TI)},(∀ p,p∈l→sP P p.1 p.2=true)→ap P (xz l)
 |[],_,t=>by simp[xz,TI.none]
 | (k,ti)::r,h,t=>by
   have ih:=BT (l:=r) (fun p hp=>h p (Si _ hp)) t
   by_cases e:k=t
   ·subst e
    have:=CT (h (k,ti) (by simp));simp only[xz,S9];cases ti.kind<;>first|trivial|exact this
   ·simp only[xz,RI e]
    exact ih
/-! ### nil where data is wanted -/
mutual
def jF:DV→DV→Prop
 |.sc (.slice none 0 0),.sl _ []=>True
 |.sl n rs,.sl m qs=>n=m∧lX rs qs
 |x,y=>x=y
def lX:List (List DV)→List (List DV)→Prop
 |[],[]=>True
 |r::rs,q::qs=>jL r q∧lX rs qs
 |_,_=>False
def jL:List DV→List DV→Prop
 |[],[]=>True
 |x::r,y::q=>jF x y∧jL r q
 |_,_=>False
end
mutual
def dM:AV→AV→Prop
 |.d x,.d y=>x=y∨jF x y
 |.agg xs,.agg ys=>gD xs ys
 |.tup xs,.tup ys=>gD xs ys
 |x,y=>x=y
def gD:List AV→List AV→Prop
 |[],[]=>True
 |x::r,y::l=>dM x y∧gD r l
 |_,_=>False
end
theorem j0:∀{xs ys:List DV},jL xs ys→xs.length=ys.length∧∀(j:Nat) (x y:DV),xs[j]?=some x→ys[j]?=some y→jF x y
 |[],[],_=>⟨rfl,by simp⟩
 | x::r,y::l,h=>by
   simp only[jL] at h;obtain⟨h1,h2⟩:=j0 h.2;refine⟨by simp[h1],fun j a b ha hb=>?_⟩
   match j with
   |0=>simp at ha hb;subst ha;subst hb;exact h.1
   |j+1=>exact h2 j a b (by simpa using ha) (by simpa using hb)
 |[],_::_,h=>by simp[jL] at h
 |_::_,[],h=>by simp[jL] at h
theorem wL:∀{xs ys:List (List DV)},lX xs ys→xs.length=ys.length∧∀(j:Nat) (x y:List DV),xs[j]?=some x→ys[j]?=some y→jL x y
 |[],[],_=>⟨rfl,by simp⟩
 | x::r,y::l,h=>by
   simp only[lX] at h;obtain⟨h1,h2⟩:=wL h.2;refine⟨by simp[h1],fun j a b ha hb=>?_⟩
   match j with
   |0=>simp at ha hb;subst ha;subst hb;exact h.1
   |j+1=>exact h2 j a b (by simpa using ha) (by simpa using hb)
 |[],_::_,h=>by simp[lX] at h
 |_::_,[],h=>by simp[lX] at h
theorem mY:∀{xs ys:List AV},gD xs ys→xs.length=ys.length∧∀(j:Nat) (x y:AV),xs[j]?=some x→ys[j]?=some y→dM x y
 |[],[],_=>⟨rfl,by simp⟩
 | x::r,y::l,h=>by
   simp only[gD] at h;obtain⟨h1,h2⟩:=mY h.2;refine⟨by simp[h1],fun j a b ha hb=>?_⟩
   match j with
   |0=>simp at ha hb;subst ha;subst hb;exact h.1
   |j+1=>exact h2 j a b (by simpa using ha) (by simpa using hb)
 |[],_::_,h=>by simp[gD] at h
 |_::_,[],h=>by simp[gD] at h
theorem LC {ok:Nat→Prop} {w:World} {x:DV} {v:Value} (h:X7 ok w x v):∀ y,jF x y→X7 ok w y v:=by
 induction h with
 |int k n => intro y hc;have:DV.int k n=y:=by cases y<;>(simp only[jF] at hc;exact hc)
             subst this;exact .int k n
 |bool b => intro y hc;have:DV.bool b=y:=by cases y<;>(simp only[jF] at hc;exact hc)
            subst this;exact .bool b
 |str l => intro y hc;have:DV.str l=y:=by cases y<;>(simp only[jF] at hc;exact hc)
           subst this;exact .str l
 | sc v h=>
   intro y hc;unfold jF at hc;split at hc
   ·rename_i sz e
    injection e with e;subst e;exact .sl sz [] none 0 (fun _ _=>undef) (by simp) (by simp) (by simp) (by simp)
   ·rename_i e;cases e
   ·subst hc;exact .sc v h
 | sc0 A=>
   intro y hc;unfold jF at hc;split at hc
   ·rename_i sz e
    exact .sl sz [] A 0 (fun _ _=>undef) (by simp) (by simp) (by simp) (by simp)
   ·rename_i e;cases e
   ·subst hc;exact .sc0 A
 | sl sz rows A cap u hcap hsz hc hr ih=>
   intro y hco;unfold jF at hco;split at hco
   ·rename_i e;cases e
   ·rename_i n rs m qs e
    injection e with e1 e2;subst e1;subst e2;obtain⟨e3,hco⟩:=hco;subst e3;obtain⟨hl,hg⟩:=wL hco
    have back:∀(i:Nat) (r':List DV),qs[i]?=some r'→∃ r,rows[i]?=some r∧jL r r':=fun i r' hi=>by
     have hlt:i<rows.length:=by rw[hl];exact(RM.1 hi).1
     exact⟨_,RH hlt,hg i _ r' (RH hlt) hi⟩
    rw[hl];refine .sl sz qs A cap u (by rw[←hl];exact hcap) (fun r' hr'=>?_) (fun hp=>?_) fun i r' hi j c' hj=>?_
    ·obtain⟨i,hi⟩:=UT.1 hr'
     obtain⟨r,h1,h2⟩:=back i r' hi;rw[←(j0 h2).1];exact hsz r (Sl h1)
    ·obtain⟨b,o,h1,h2,h3⟩:=hc (by rw[hl];exact hp)
     refine⟨b,o,h1,h2,fun i r' hi j c' hj=>?_⟩;obtain⟨r,h4,h5⟩:=back i r' hi;have hlt:j<r.length:=by rw[(j0 h5).1];exact(RM.1 hj).1
     exact h3 i r h4 j _ (RH hlt)
    ·obtain⟨r,h4,h5⟩:=back i r' hi
     have hlt:j<r.length:=by rw[(j0 h5).1];exact(RM.1 hj).1
     exact ih i r h4 j _ (RH hlt) c' ((j0 h5).2 j _ c' (RH hlt) hj)
   ·subst hco;exact .sl sz rows A cap u hcap hsz hc hr
theorem sK {ρ:List (Option (Nat×Nat))} {ok:Nat→Prop} {w:World} {x:AV} {u:Value} (h:RepV ρ ok w x u):∀ y,dM x y→RepV ρ ok w y u:=by
 induction h with
 | agg cs us hl h1 hr ih=>
   intro y hc;unfold dM at hc;split at hc
   ·rename_i e;cases e
   ·rename_i xs ys e
    injection e with e;subst e;obtain⟨q1,q2⟩:=mY hc;refine .agg _ _ (by rw[hl,q1]) h1 fun j c u hcj hu=>?_
    have hj:j<cs.length:=by rw[q1];exact(RM.1 hcj).1
    exact ih j _ u (RH hj) hu c (q2 j _ c (RH hj) hcj)
   ·rename_i e;cases e
   ·subst hc;exact .agg cs us hl h1 hr
 | d x v h=>
   intro y hc;unfold dM at hc;split at hc
   ·rename_i a b e
    injection e with e;subst e;rcases hc with hc|hc
    ·subst hc;exact .d _ _ h
    ·exact .d _ _ (LC h _ hc)
   ·rename_i e;cases e
   ·rename_i e;cases e
   ·subst hc;exact .d x v h
 | tup cs us hl hr ih=>
   intro y hc;unfold dM at hc;split at hc
   ·rename_i e;cases e
   ·rename_i e;cases e
   ·rename_i xs ys e
    injection e with e;subst e;obtain⟨q1,q2⟩:=mY hc;refine .tup _ _ (by rw[hl,q1]) fun j c u hcj hu=>?_
    have hj:j<cs.length:=by rw[q1];exact(RM.1 hcj).1
    exact ih j _ u (RH hj) hu c (q2 j _ c (RH hj) hcj)
   ·subst hc;exact .tup cs us hl hr
 |ptr k off b m h => intro y hc;have:AV.ptr k off=y:=by cases y<;>(simp only[dM] at hc;exact hc)
                     subst this;exact .ptr k off b m h
 |rp k sz i off b m h => intro y hc;have:AV.rp k sz i off=y:=by cases y<;>(simp only[dM] at hc;exact hc)
                         subst this;exact .rp k sz i off b m h
 |osl k sz off n b m cap h hm hn => intro y hc;have:AV.osl k sz off n=y:=by cases y<;>(simp only[dM] at hc;exact hc)
                                    subst this;exact .osl k sz off n b m cap h hm hn
 | oslnil k sz A h=>
   intro y hc
   have:AV.osl k sz 0 0=y:=by cases y<;>(simp only[dM] at hc;exact hc)
   subst this;exact .oslnil k sz A h
 |dp row off b o u hb hc' hr => intro y hc;have:AV.dp row off=y:=by cases y<;>(simp only[dM] at hc;exact hc)
                                subst this;exact .dp row off b o u hb hc' hr
 |clo f first caps us vs hl hl' hr hr' _ _ => intro y hc;have:AV.clo f first caps=y:=by cases y<;>(simp only[dM] at hc;exact hc)
                                              subst this;exact .clo f first caps us vs hl hl' hr hr'
 |gd g v u ht hf _ => intro y hc;have:AV.gd g v=y:=by cases y<;>(simp only[dM] at hc;exact hc)
                      subst this;exact .gd g v u ht hf
 |mp k b m h => intro y hc;have:AV.mp k=y:=by cases y<;>(simp only[dM] at hc;exact hc)
                subst this;exact .mp k b m h
 |any u => intro y hc;have:AV.any=y:=by cases y<;>first|rfl|(simp only[dM] at hc;exact hc)
           subst this;exact .any u
mutual
theorem iP:∀(x:AV),dM x x
 |.d x=>by simp[dM]
 |.agg xs=>by simp only[dM];exact iS xs
 |.tup xs=>by simp only[dM];exact iS xs
 |.ptr _ _=>by simp only[dM]
 |.rp _ _ _ _=>by simp only[dM]
 |.osl _ _ _ _=>by simp only[dM]
 |.dp _ _=>by simp only[dM]
 |.clo _ _ _=>by simp only[dM]
 |.gd _ _=>by simp only[dM]
 |.mp _=>by simp only[dM]
 |.any=>by simp only[dM]
theorem iS:∀(xs:List AV),gD xs xs
 |[]=>by simp only[gD]
 |x::r=>by simp only[gD];exact⟨iP x,iS r⟩
end
theorem ab.coe{P:Program}{hp:List ABlk}{g:FuncId}{xs ys:List AV}{R:AV→List ABlk→Prop}(c:ab P hp g ys R)(h:gD xs ys):ab P hp g xs R:=by
 refine⟨c.1,fun E w us h1 h2 h3=>c.2 E w us h1 h2 ?_⟩;obtain⟨q1,q2⟩:=mY h;refine⟨by rw[h3.1,q1],fun j y u hy hu=>?_⟩;have hj:j<xs.length:=by rw[q1];exact(RM.1 hy).1
 exact sK (h3.2 j _ u (RH hj) hu) y (q2 j _ y (RH hj) hy)
theorem af.coe{np:Nat}{hp:List ABlk}{v v':AV}{R:AV→List ABlk→Prop}(hc:dM v v')(h:af np hp v' R):af np hp v R:=
 fun E ρ w u h1 h2 h3 h4=>h E ρ w u h1 h2 h3 (sK h4 v' hc)
theorem MA(x:DV):aj (.d x)=.d x:=rfl
theorem Gv(x:List AV):aj (.agg x)=.agg x:=rfl
theorem GY(x:List AV):aj (.tup x)=.tup x:=rfl
theorem Gx(k o:Nat):aj (.ptr k o)=.ptr k o:=rfl
theorem LO(k:Nat):aj (.mp k)=.mp k:=rfl
theorem H7(k s i o:Nat):aj (.rp k s i o)=.rp k s i o:=rfl
theorem Hv(k s i o:Nat):aj (.osl k s i o)=.osl k s i o:=rfl
theorem Ka(r:List DV)(o:Nat):aj (.dp r o)=.dp r o:=rfl
theorem FM(f:FuncId)(a b:List AV):aj (.clo f a b)=.clo f a b:=rfl
theorem Kl(g:Bool)(v:AV):aj (.gd g v)=v:=rfl
theorem GB:aj .any=.any:=rfl
theorem OJ(x:DV):de (.d x)=True:=rfl
theorem IL(x:List AV):de (.agg x)=True:=rfl
theorem Md(x:List AV):de (.tup x)=True:=rfl
theorem L3(k o:Nat):de (.ptr k o)=True:=rfl
theorem MC(k:Nat):de (.mp k)=True:=rfl
theorem MP(k s i o:Nat):de (.rp k s i o)=True:=rfl
theorem H4(k s i o:Nat):de (.osl k s i o)=True:=rfl
theorem NR(r:List DV)(o:Nat):de (.dp r o)=True:=rfl
theorem KS(f:FuncId)(a b:List AV):de (.clo f a b)=True:=rfl
theorem Nd(g:Bool)(v:AV):de (.gd g v)=(g=true):=rfl
theorem Lt:de .any=True:=rfl
theorem XA(a b:Nat)(z:List DV)(k:TK)(c:List TK):TI.agg { size:=a,bytes:=b,zero:=z,kind:=k,cmp:=c }=(match k with|.struct _=>true|.array _ _=>true|_=>false):=rfl
theorem Jp(t:Nat):cy [] t=.any:=rfl
theorem Gj(k:Nat)(v:AV)(r:List (Nat×AV))(t:Nat):cy ((k,v)::r) t=if k=t then v else cy r t:=rfl
theorem Jd(s:ASt)(t:Tmp):aB s (.tmp t)=cy s.env t:=rfl
theorem Jq(s:ASt)(k:IntKind)(n:Int):aB s (.const (.int k n))=.d (.int k n):=rfl
theorem G1(s:ASt)(b:Bool):aB s (.const (.bool b))=.d (.bool b):=rfl
theorem Kx(s:ASt)(b:ByteArray):aB s (.const (.string b))=.d (.str b.data.toList):=rfl
theorem DU(s:ASt):aB s (.const (.slice none 0 0))=.d (.sc (.slice none 0 0)):=rfl
theorem A6(s:ASt):aB s (.const (.pointer none))=.d (.sc (.pointer none)):=rfl
theorem Hw(s:ASt)(f:FuncId):aB s (.func f)=.d (.sc (.func (.func f) #[] #[])):=rfl
theorem KM(P:Program)(T:TypeId→TI)(ops:Array Oper)(Q:ASt→Prop)(s:ASt):CO P T ops Q [] s=Q s:=rfl
theorem GQ(P:Program)(T:TypeId→TI)(ops:Array Oper)(Q:ASt→Prop)(o:Oper)(r:List Oper)(s:ASt):CO P T ops Q (o::r) s=m5 P T ops s o (CO P T ops Q r):=rfl
theorem FF(P:Program)(T:TypeId→TI)(ops:Array Oper)(Q:ASt→Prop)(s:ASt):o7 P T ops Q [] s=Q s:=rfl
theorem DL(P:Program)(T:TypeId→TI)(ops:Array Oper)(Q:ASt→Prop)(o:Oper)(r:List Oper)(s:ASt):o7 P T ops Q (o::r) s=gx P T ops s o (o7 P T ops Q r):=rfl
theorem G8(p:XT):XS [] p=p:=rfl
theorem DW(k:Nat)(ks:List Nat)(p:XT):XS (k::ks) p=.take k (XS ks p):=rfl
theorem Ed(P:Program)(T:TypeId→TI)(ops:Array Oper)(Q:ASt→Prop)(s:ASt):fD P T ops Q .done s=Q s:=rfl
theorem DK(P:Program)(T:TypeId→TI)(ops:Array Oper)(Q:ASt→Prop)(k:Nat)(p:XT)(s:ASt):fD P T ops Q (.take k p) s=fy P T ops s ops[k]? (fD P T ops Q p):=rfl
theorem C7(P:Program)(T:TypeId→TI)(ops:Array Oper)(Q:ASt→Prop)(k k':Nat)(p p':XT)(s:ASt):fD P T ops Q (.fork k p k' p') s=(fy P T ops s ops[k]? (fD P T ops Q p)∧fy P T ops s ops[k']? (fD P T ops Q p')):=rfl
theorem AI(P:Program)(T:TypeId→TI)(ops:Array Oper)(Q:ASt→Prop)(k k' k2:Nat)(p p' p2:XT)(s:ASt):fD P T ops Q (.forks k p k' p' k2 p2) s=(fy P T ops s ops[k]? (fD P T ops Q p)∧fy P T ops s ops[k']? (fD P T ops Q p')∧fy P T ops s ops[k2]? (fD P T ops Q p2)):=rfl
theorem Am(P:Program)(T:TypeId→TI)(ops:Array Oper)(Q:ASt→Prop)(o:Oper)(s:ASt):fy P T ops s (some o) Q=bif eh o.op then m5 P T ops s o Q else gx P T ops s o Q:=rfl
theorem FT(P:Program)(T:TypeId→TI)(ops:Array Oper)(Q:ASt→Prop)(s:ASt):jl P T ops Q [] s=Q s:=rfl
theorem CS(P:Program)(T:TypeId→TI)(ops:Array Oper)(Q:ASt→Prop)(o:Oper)(r:List Oper)(s:ASt):jl P T ops Q (o::r) s=bif eh o.op then m5 P T ops s o (jl P T ops Q r) else gx P T ops s o (jl P T ops Q r):=rfl
theorem GF:jJ []=True:=rfl
theorem Ei(x:AV)(r:List AV):jJ (x::r)=(de x∧jJ r):=rfl
theorem Je(hp:List ABlk):dh hp []=[]:=rfl
theorem Hn(hp:List ABlk)(x:AV)(r:List AV):dh hp (x::r)=bt hp x::dh hp r:=rfl
theorem Cs(hp:List ABlk):ch hp []=True:=rfl
theorem AM(hp:List ABlk)(x:AV)(r:List AV):ch hp (x::r)=(cc hp x∧ch hp r):=rfl
theorem Hb:cF []=True:=rfl
theorem Eg(x:AV)(r:List AV):cF (x::r)=(cp x∧cF r):=rfl
theorem KC:dB []=[]:=rfl
theorem FR(x:AV)(r:List AV):dB (x::r)=eB x++dB r:=rfl
theorem IZ(f:Nat→Nat):renL f []=[]:=rfl
theorem Gi(f:Nat→Nat)(x:AV)(r:List AV):renL f (x::r)=renV f x::renL f r:=rfl
theorem Nm(n:Nat):inL n []=True:=rfl
theorem Ia(n:Nat)(x:AV)(r:List AV):inL n (x::r)=(inV n x∧inL n r):=rfl
theorem Av(hp:List ABlk):killIds [] hp=hp:=rfl
theorem yw(k:Nat)(r:List Nat)(hp:List ABlk):killIds (k::r) hp=killIds r (hp.set k .dead):=rfl
theorem GH(f:Nat→Nat)(n:Nat)(e:List (Nat×AV)):pm f n e []=True:=rfl
theorem Cq(f:Nat→Nat)(n:Nat)(e:List (Nat×AV))(t:Nat)(v:AV)(r:List (Nat×AV)):pm f n e ((t,v)::r)=((cy e t=renV f v∧inV n v)∧pm f n e r):=rfl
theorem Mb(f:Nat→Nat)(n:Nat)(hp:List ABlk)(i:Nat):mT f n hp i []=True:=rfl
theorem Gp(f:Nat→Nat)(n:Nat)(hp:List ABlk)(i:Nat)(x:ABlk)(r:List ABlk):mT f n hp i (x::r)=((x=.dead∨(hp[f i]?=some (renB f x)∧inB n x))∧mT f n hp (i+1) r):=rfl
theorem Iw(hp:List ABlk)(e:List (Nat×AV)):NK hp e []=True:=rfl
theorem Fu(hp:List ABlk)(e:List (Nat×AV))(t:Nat)(v:AV)(r:List (Nat×AV)):NK hp e ((t,v)::r)=(((cy e t=v)∨(cc hp (cy e t)∧cp (bt hp (cy e t))∧v=bt hp (cy e t)))∧NK hp e r):=rfl
theorem FG(T:TypeId→TI)(s:ASt):bh T s []=(True,[]):=rfl
theorem Dp(T:TypeId→TI)(s:ASt)(r:ResultVar)(l:List ResultVar):bh T s (r::l)=((tY T s r).ok∧(bh T s l).1,(tY T s r).v::(bh T s l).2):=rfl
theorem Lv(k:Nat):gE k []=[]:=rfl
theorem G9(k:Nat)(x:AV)(r:List AV):gE k (x::r)=(k,x)::gE (k+1) r:=rfl
theorem DE(sz:Nat)(cs:List AV):pp sz 0 cs=some []:=rfl
theorem CU(sz n:Nat)(cs:List AV):pp sz (n+1) cs=(match kg (cs.take sz),pp sz n (cs.drop sz) with|some r,some l=>some (r::l)|_,_=>none):=rfl
theorem GE:kg []=some []:=rfl
theorem Ec(x:AV)(r:List AV):kg (x::r)=(match IP x,kg r with|some y,some l=>some (y::l)|_,_=>none):=rfl
theorem y7:aH [] [] []=(True,true):=rfl
theorem vX(k:TK)(ks:List TK)(x y:AV)(xs ys:List AV):aH (k::ks) (x::xs) (y::ys)=((fQ k x y).1∧(aH ks xs ys).1,(fQ k x y).2&&(aH ks xs ys).2):=rfl
theorem GO(p:Nat→Option (Nat×Nat))(cs:List AV):gz p [] cs=(True,cs):=rfl
theorem Di(p:Nat→Option (Nat×Nat))(i:Nat)(v:AV)(r:List (Nat×AV))(cs:List AV):gz p ((i,v)::r) cs=(match p i with|none=>(False,cs)|some (off,size)=>((acells v).length=size∧off+(acells v).length≤cs.length∧(oe v=false)∧(gz p r (cs.take off++acells v++cs.drop (off+(acells v).length))).1,(gz p r (cs.take off++acells v++cs.drop (off+(acells v).length))).2)):=rfl
theorem Hc:gG []=some []:=rfl
theorem CQ(x:AV)(r:List AV):gG (x::r)=(match bv x,gG r with|some u,some l=>some (u::l)|_,_=>none):=rfl
theorem K5:gD [] []=True:=rfl
theorem HB(x y:AV)(r l:List AV):gD (x::r) (y::l)=(dM x y∧gD r l):=rfl
theorem DQ(f:Nat→Nat)(hp:List ABlk)(r:List ABlk):bZ f hp [] r=hp:=by cases r<;>rfl
theorem A7(f:Nat→Nat)(hp:List ABlk)(i:Nat)(m:List Nat)(x:ABlk)(r:List ABlk):bZ f hp (i::m) (x::r)=bZ f (hp.set i (renB f x)) m r:=rfl
theorem yZ:killRows []=[]:=rfl
theorem vz(sz:Nat)(rs:List (List DV))(r:List ABlk):killRows (.rows sz rs::r)=.dead::killRows r:=rfl
theorem tn(cs:List AV)(r:List ABlk):killRows (.cells cs::r)=.cells cs::killRows r:=rfl
theorem v7(r:List ABlk):killRows (.dead::r)=.dead::killRows r:=rfl
theorem Pt(hp:List ABlk)(x:DV):bt hp (.d x)=.d x:=rfl
theorem Lq(hp:List ABlk)(x:List AV):bt hp (.agg x)=.agg (dh hp x):=rfl
theorem H3(hp:List ABlk)(x:List AV):bt hp (.tup x)=.tup (dh hp x):=rfl
theorem LX(hp:List ABlk)(k o:Nat):bt hp (.ptr k o)=.ptr k o:=rfl
theorem Oa(hp:List ABlk)(k:Nat):bt hp (.mp k)=.mp k:=rfl
theorem NU(hp:List ABlk)(k sz i o:Nat):bt hp (.rp k sz i o)=.rp k sz i o:=rfl
theorem vd(hp:List ABlk)(k sz o n:Nat):bt hp (.osl k sz o n)=(match hp[k]? with|some (.rows _ rs)=>.d (.sl sz ((rs.drop o).take n))|_=>.any):=rfl
theorem Oe(hp:List ABlk)(w:List DV)(o:Nat):bt hp (.dp w o)=.dp w o:=rfl
theorem K2(hp:List ABlk)(g:FuncId)(x y:List AV):bt hp (.clo g x y)=.clo g x y:=rfl
theorem Nx(hp:List ABlk)(g:Bool)(v:AV):bt hp (.gd g v)=.gd g v:=rfl
theorem Ib(hp:List ABlk) :bt hp (.any)=.any:=rfl
theorem N9(hp:List ABlk)(x:DV):cc hp (.d x)=True:=rfl
theorem F9(hp:List ABlk)(x:List AV):cc hp (.agg x)=ch hp x:=rfl
theorem GI(hp:List ABlk)(x:List AV):cc hp (.tup x)=ch hp x:=rfl
theorem GV(hp:List ABlk)(k o:Nat):cc hp (.ptr k o)=True:=rfl
theorem Ip(hp:List ABlk)(k:Nat):cc hp (.mp k)=True:=rfl
theorem Jw(hp:List ABlk)(k sz i o:Nat):cc hp (.rp k sz i o)=True:=rfl
theorem rn(hp:List ABlk)(k sz o n:Nat):cc hp (.osl k sz o n)=(match hp[k]? with|some (.rows sz' rs)=>sz=sz'∧o+n≤rs.length|_=>False):=rfl
theorem Mg(hp:List ABlk)(w:List DV)(o:Nat):cc hp (.dp w o)=True:=rfl
theorem Hp(hp:List ABlk)(g:FuncId)(x y:List AV):cc hp (.clo g x y)=True:=rfl
theorem JH(hp:List ABlk)(g:Bool)(v:AV):cc hp (.gd g v)=True:=rfl
theorem FV(hp:List ABlk) :cc hp (.any)=True:=rfl
theorem OP  (x:DV):cp (.d x)=True:=rfl
theorem Iu  (x:List AV):cp (.agg x)=cF x:=rfl
theorem Ls  (x:List AV):cp (.tup x)=cF x:=rfl
theorem J2  (k o:Nat):cp (.ptr k o)=False:=rfl
theorem NA  (k:Nat):cp (.mp k)=False:=rfl
theorem MM  (k sz i o:Nat):cp (.rp k sz i o)=False:=rfl
theorem IX  (k sz o n:Nat):cp (.osl k sz o n)=False:=rfl
theorem MK  (w:List DV) (o:Nat):cp (.dp w o)=True:=rfl
theorem JP  (g:FuncId) (x y:List AV):cp (.clo g x y)=False:=rfl
theorem Mv  (g:Bool) (v:AV):cp (.gd g v)=False:=rfl
theorem Ld  :cp (.any)=True:=rfl
theorem PM  (x:DV):eB (.d x)=[]:=rfl
theorem JO  (x:List AV):eB (.agg x)=dB x:=rfl
theorem J5  (x:List AV):eB (.tup x)=dB x:=rfl
theorem If  (k o:Nat):eB (.ptr k o)=[]:=rfl
theorem MY  (k:Nat):eB (.mp k)=[]:=rfl
theorem Ob  (k sz i o:Nat):eB (.rp k sz i o)=[]:=rfl
theorem H8  (k sz o n:Nat):eB (.osl k sz o n)=[k]:=rfl
theorem Nv  (w:List DV) (o:Nat):eB (.dp w o)=[]:=rfl
theorem IR  (g:FuncId) (x y:List AV):eB (.clo g x y)=[]:=rfl
theorem Ms  (g:Bool) (v:AV):eB (.gd g v)=[]:=rfl
theorem KN  :eB (.any)=[]:=rfl
theorem OU(f:Nat→Nat)(x:DV):renV f (.d x)=.d x:=rfl
theorem Ky(f:Nat→Nat)(x:List AV):renV f (.agg x)=.agg (renL f x):=rfl
theorem LQ(f:Nat→Nat)(x:List AV):renV f (.tup x)=.tup (renL f x):=rfl
theorem HI(f:Nat→Nat)(k o:Nat):renV f (.ptr k o)=.ptr (f k) o:=rfl
theorem NM(f:Nat→Nat)(k:Nat):renV f (.mp k)=.mp (f k):=rfl
theorem M7(f:Nat→Nat)(k sz i o:Nat):renV f (.rp k sz i o)=.rp (f k) sz i o:=rfl
theorem LD(f:Nat→Nat)(k sz o n:Nat):renV f (.osl k sz o n)=.osl (f k) sz o n:=rfl
theorem MO(f:Nat→Nat)(w:List DV)(o:Nat):renV f (.dp w o)=.dp w o:=rfl
theorem Ma(f:Nat→Nat)(g:FuncId)(x y:List AV):renV f (.clo g x y)=.clo g (renL f x) (renL f y):=rfl
theorem MG(f:Nat→Nat)(g:Bool)(v:AV):renV f (.gd g v)=.gd g (renV f v):=rfl
theorem K6(f:Nat→Nat) :renV f (.any)=.any:=rfl
theorem RC(m:Nat)(x:DV):inV m (.d x)=True:=rfl
theorem Mx(m:Nat)(x:List AV):inV m (.agg x)=inL m x:=rfl
theorem N8(m:Nat)(x:List AV):inV m (.tup x)=inL m x:=rfl
theorem Nu(m:Nat)(k o:Nat):inV m (.ptr k o)=(k<m):=rfl
theorem OO(m:Nat)(k:Nat):inV m (.mp k)=(k<m):=rfl
theorem Pb(m:Nat)(k sz i o:Nat):inV m (.rp k sz i o)=(k<m):=rfl
theorem N4(m:Nat)(k sz o n:Nat):inV m (.osl k sz o n)=(k<m):=rfl
theorem Pp(m:Nat)(w:List DV)(o:Nat):inV m (.dp w o)=True:=rfl
theorem Nr(m:Nat)(g:FuncId)(x y:List AV):inV m (.clo g x y)=(inL m x∧inL m y):=rfl
theorem Pc(m:Nat)(g:Bool)(v:AV):inV m (.gd g v)=inV m v:=rfl
theorem MX(m:Nat) :inV m (.any)=True:=rfl
theorem Ft(k:IntKind)(n:Int):bv (.d (.int k n))=some (.int k n):=rfl
theorem Cu(b:Bool):bv (.d (.bool b))=some (.bool b):=rfl
theorem Gq(l:List UInt8):bv (.d (.str l))=some (aW l):=rfl
theorem HC(vs:List AV):bv (.tup vs)=(gG vs).map fun l=>.tuple l.toArray:=rfl
theorem FJ(cs:List AV):bv (.agg cs)=(gG cs).bind fun l=>if l.all (·.oneCell') then some (.agg l.toArray) else none:=rfl
theorem PA(x y:DV):dM (.d x) (.d y)=(x=y∨jF x y):=by simp only[dM]
theorem J8(x y:List AV):dM (.agg x) (.agg y)=gD x y:=by simp only[dM]
theorem I5(x y:List AV):dM (.tup x) (.tup y)=gD x y:=by simp only[dM]
theorem Jl(n:Nat):jF (.sc (.slice none 0 0)) (.sl n [])=True:=by simp only[jF]
theorem M4(n m:Nat)(l r:List (List DV)):jF (.sl n l) (.sl m r)=(n=m∧lX l r):=by simp only[jF]
theorem IV(k:IntKind)(n:Int)(y:DV):jF (.int k n) y=(.int k n=y):=by cases y<;>simp[jF]
theorem FY(b:Bool)(y:DV):jF (.bool b) y=(.bool b=y):=by cases y<;>simp[jF]
theorem JX(l:List UInt8)(y:DV):jF (.str l) y=(.str l=y):=by cases y<;>simp[jF]
theorem F3:lX [] []=True:=by simp only[lX]
theorem Dq(r q:List DV)(rs qs:List (List DV)):lX (r::rs) (q::qs)=(jL r q∧lX rs qs):=by simp only[lX]
theorem GA:jL [] []=True:=by simp only[jL]
theorem C2(x y:DV)(r q:List DV):jL (x::r) (y::q)=(jF x y∧jL r q):=by simp only[jL]
theorem GN(k k':IntKind)(a b:Int):(DV.int k a=DV.int k' b)=(k=k'∧a=b):=by simp
theorem C0(a b:Bool):(DV.bool a=DV.bool b)=(a=b):=by simp
attribute [go_sem] MA Gv GY Gx LO H7 Hv Ka FM Kl GB OJ IL Md L3 MC MP H4 NR KS Nd Lt
attribute [go_sem] KM GQ FF DL FT CS Hh DN G8 DW Ed DK C7 AI Am GF Ei Je Hn Cs AM Hb Eg KC FR IZ Gi Nm Ia Av yw GH Cq Mb Gp Iw Fu FG Dp Lv G9 DE CU GE Ec y7 vX GO Di Hc CQ K5 HB DQ A7 yZ vz tn v7 Pt Lq H3 LX Oa NU vd Oe K2 Nx Ib N9 F9 GI GV Ip Jw rn Mg Hp JH FV OP Iu Ls J2 NA MM IX MK JP Mv Ld PM JO J5 If MY Ob H8 Nv IR Ms KN OU Ky LQ HI NM M7 LD MO Ma MG K6 RC Mx N8 Nu OO Pb N4 Pp Nr Pc MX Ft Cu Gq HC FJ PA J8 I5 Jl M4 IV FY JX F3 Dq GA C2 GN C0 or_self true_or or_true or_false false_or
attribute [go_sem] uf.eq_def y5.eq_def DJ.eq_def fQ.eq_def m5.eq_def yU.eq_def tW.eq_def gx.eq_def pL.eq_def uF.eq_def uW.eq_def nT.eq_def Qy.eq_def fJ.eq_def gw.eq_def ou.eq_def fY.eq_def g1.eq_def g2.eq_def Bf.eq_def Ku.eq_def tw.eq_def vq.eq_def pz.eq_def aun.eq_def Ak.eq_def IS.eq_def OG.eq_def rK.eq_def gr.eq_def lf.eq_def GK.eq_def HA.eq_def ub.eq_def eh.eq_def H2.eq_def amm.eq_def Lj.eq_def apart.eq_def wH.eq_def m8.eq_def H1.eq_def ru.eq_def KQ.eq_def Ix.eq_def tA.eq_def C8.eq_def eP.eq_def renB.eq_def inB.eq_def mAt.eq_def bN.eq_def d9.eq_def bq.eq_def er.eq_def acells.eq_def oe.eq_def qx.eq_def mq.eq_def oD.eq_def Cz.eq_def d8.eq_def sm.eq_def spl.eq_def oQ.eq_def IP.eq_def rL.eq_def srcRows.eq_def A3.eq_def wW.eq_def lG.eq_def oJ.eq_def O9.eq_def xH.eq_def Me.eq_def BR yN ls.eq_def MN.eq_def Au.eq_def nV.eq_def tY.eq_def du.eq_def ie.eq_def
attribute [go_sem] Jd Jq G1 Kx DU A6 Hw Jp Gj N6 lg XA
attribute [go_sem] IntKind.bits
attribute [go_sem] if_true if_false ite_true ite_false true_and and_true false_and and_false List.length_cons List.length_nil List.map_cons List.map_nil List.nil_append List.cons_append List.append_nil List.getElem?_cons_zero List.getElem?_cons_succ List.getElem?_nil
attribute [go_sem] List.drop_zero List.drop_succ_cons List.take_succ_cons List.take_zero List.take_nil List.drop_nil List.set_cons_zero List.set_cons_succ List.set_nil List.getD_cons_zero List.getD_cons_succ Option.map_some Option.map_none Option.bind_some Option.bind_none Option.getD_some Option.getD_none
attribute [go_sem] Bool.false_eq_true Bool.not_true Bool.not_false Bool.true_and Bool.and_true Bool.false_and Bool.and_false Bool.true_or Bool.or_true Bool.false_or Bool.or_false cond_true cond_false Bool.cond_true_left Bool.cond_false_right Bool.cond_true_right Bool.cond_false_left
attribute [go_sem] forall_const implies_true false_implies imp_self List.length_append List.length_map List.length_set List.length_replicate List.flatten_cons List.flatten_nil List.replicate_succ List.replicate_zero List.toList_toArray List.getElem?_toArray List.size_toArray decide_true decide_false
def sC(id:Nat)(N:ASt→Prop)(Q:Exit→ASt→Prop):Exit→ASt→Prop
 |.normal,s=>N s
 |.exit i,s=>if i=id then N s else Q (.exit i) s
 |e,s=>Q e s
section
variable {P:Program} {T:TypeId→TI} {s:ASt} {Q:Exit→ASt→Prop} {x y z:Code} {N:ASt→Prop}
theorem AWP.region{id:Nat}{l:List Oper}(hT:ap P T)(h:∀ K:ASt→Prop,(∀ s',Q .normal s'→K s')→CO P T l.toArray K l s):AWP P (.region id l.toArray false) s Q:=fun _ ρ a w hr=>
 wp_region_lit (vK hT (fun s' ρ' a' w' hs hr'=>⟨s',ρ',hr',hs⟩) l s ρ a w (h _ fun _ hq=>hq) hr)
theorem AWP.quiet{id:Nat}{l:List Oper}(hm:P.follows .mixedOrders=true)(hT:ap P T)(hB:Region.lexB .any l.toArray=true)(h:∀ K:ASt→Prop,(∀ s',Q .normal s'→K s')→o7 P T l.toArray K l s) :
  AWP P (.region id l.toArray true) s Q:=fun E ρ a w hr=>by
 refine wp_region_quiet (C:=fun w'=>Below w.heap.size w w') hm hB ⟨rfl,rfl,rfl,RP _,fun _ _=>rfl⟩ (sx hT (fun s' a' hs hr'=>?_) _ s a (h _ fun _ hq=>hq) hr);intro w' hb;exact⟨s',ρ,hr'.below hb,hs⟩
theorem AWP.cond{c:Operand}{b:Bool}(hc:aB s c=.d (.bool b))(h1:b=true→AWP P x s Q)(h2:b=false→AWP P y s Q):AWP P (.cond c x y) s Q:=fun E ρ a w hr=>by
 have h:=bY hr c;rw[hc] at h;generalize hu:a.eval c=u at h;cases h with|d _ _ h=>cases h with|bool _=>
 cases b with
 |true=>exact wp_cond_true hu (h1 rfl E ρ a w hr)
 |false=>exact wp_cond_false hu (h2 rfl E ρ a w hr)
theorem AWP.block{id:Nat}(h:AWP P x s (sC id (Q .normal) Q)):AWP P (.block id x) s Q:=fun E ρ a w hr=>by
 refine wp_block (wpm (h E ρ a w hr) fun e a' w' hh=>?_);obtain⟨s',ρ',hr',hq⟩:=hh;cases e with
 | exit i=>
   simp only[sC] at hq;simp only[Exit.inBlock];split
   ·rename_i hi;rw[RJ hi] at hq;exact⟨s',ρ',hr',hq⟩
   ·rename_i hi;rw[RI hi] at hq;exact⟨s',ρ',hr',hq⟩
 |_=>exact⟨s',ρ',hr',hq⟩
theorem AWP.skip(h:Q .normal s):AWP P .skip s Q:=fun _ ρ _ _ hr=>wp_skip ⟨s,ρ,hr,h⟩
theorem AWP.ret(h:Q .ret s):AWP P .ret s Q:=fun _ ρ _ _ hr=>wp_ret ⟨s,ρ,hr,h⟩
theorem AWP.exit{id:Nat}(h:Q (.exit id) s):AWP P (.exit id) s Q:=fun _ ρ _ _ hr=>wp_exit ⟨s,ρ,hr,h⟩
theorem NP(h:N s):ie N Q .normal s:=h
theorem Nl(h:Q .ret s):ie N Q .ret s:=h
theorem Mn{i:Nat}(h:Q (.exit i) s):ie N Q (.exit i) s:=h
theorem PC{id:Nat}(h:N s):sC id N Q .normal s:=h
theorem O2{id:Nat}(h:Q .ret s):sC id N Q .ret s:=h
theorem Pi{id:Nat}(h:N s):sC id N Q (.exit id) s:=by simp only[sC,S9];exact h
theorem bH{id i:Nat}(hi:i≠id)(h:Q (.exit i) s):sC id N Q (.exit i) s:=by simp only[sC,RI hi];exact h
theorem Ha{e:Exit}{rs:List ResultVar}{R:AV→List ABlk→Prop}(he:e=.ret∨e=.normal)(h0:s.np=0)(h1:(bh T s rs).1)
  (h2:cc s.hp (du (bh T s rs).2)) (h3:cp (bt s.hp (du (bh T s rs).2))) (hR:R (bt s.hp (du (bh T s rs).2)) []):nV T rs R e s:=by
 have:af s.np s.hp (du (bh T s rs).2) R:=by rw[h0];exact af.data h2 h3 hR
 rcases he with rfl|rfl
 ·exact⟨h1,this⟩
 ·exact⟨h1,this⟩
end
open Go Go.RowKit Go.ChangeShapes Go.WideShapes
def rR:Nat→List (Nat×Nat×TypeId)→Nat→Bool
 |o,[],n=>o==n
 |o,(o',s,_)::r,n=>o'==o&&rR (o+s) r n
def mC(T:TypeId→TI):Nat→TypeId→Bool
 |0,_=>false
 | m+1,t=>
   match (T t).kind with
   |.bool=>(T t).size==1
   |.str=>(T t).size==1
   |.int _=>(T t).size==1
   |.slice e=>(T t).size==1&&decide (0<(T e).size)&&mC T m e
   |.struct fs=>rR 0 fs (T t).size&&fs.all fun f=>(T f.2.2).size==f.2.1&&mC T m f.2.2
   |_=>false
def mD(one:TypeId→List DV→Prop):List (Nat×Nat×TypeId)→List DV→Prop
 |[],cs=>cs=[]
 |f::r,cs=>∃ a b,cs=a++b∧one f.2.2 a∧mD one r b
def fb(T:TypeId→TI):Nat→TypeId→List DV→Prop
 |0,_,_=>False
 | m+1,t,cs=>
   match (T t).kind with
   |.bool=>∃ b,cs=[.bool b]
   |.str=>∃ l,cs=[.str l]∧l.length≤140737488351232
   |.int k=>∃ n,cs=[.int k n]∧(Lit.int k n).wf=true
   |.slice e=>∃ rows,cs=[.sl (T e).size rows]∧rows.length*(T e).bytes≤140737488351232∧rows.length≤9223372036854775807∧∀ r,r∈rows→fb T m e r
   |.struct fs=>mD (fb T m) fs cs
   |_=>False
inductive Ya (N:Nat):DV→Prop
 |int (k:IntKind) (n:Int):Ya N (.int k n)
 |bool (b:Bool):Ya N (.bool b)
 |str (l:List UInt8) (h:l.length≤N):Ya N (.str l)
 |sl (sz:Nat) (rows:List (List DV)) (h:rows.length≤N) (hr:∀ r,r∈rows→∀ c,c∈r→Ya N c):Ya N (.sl sz rows)
structure Bulk (H:Type) where
 b:DataW H→Nat
 str:∀ s:List UInt8,s.length≤b (.lit (.string s))
 slice:∀(elems spare:List (DataW H)) (d:DataW H),d∈elems→b d≤b (.slice elems spare)
 slen:∀ elems spare:List (DataW H),elems.length≤b (.slice elems spare)
 agg:∀(parts:List (DataW H)) (d:DataW H),d∈parts→b d≤b (.agg parts)
def m7{H:Type}(x:DataW H)(c:DV):Prop:=∀(bk:Bulk H) (N:Nat),bk.b x≤N→Ya N c
theorem tC{A:TypeId→List DV→Prop}{Q:DV→Prop}:∀{fs:List (Nat×Nat×TypeId)} {cs:List DV},mD (fun t ds=>A t ds∧∀ c,c∈ds→Q c) fs cs→mD A fs cs∧∀ c,c∈cs→Q c
 |[],cs,h=>by have h:cs=[]:=h;subst h;exact⟨rfl,by simp⟩
 | f::r,cs,h=>by
   obtain⟨a,b,rfl,⟨h1,h2⟩,h3⟩:=h;obtain⟨h4,h5⟩:=tC h3;exact⟨⟨a,b,rfl,h1,h4⟩,fun c hc=>(Sp.1 hc).elim (h2 c) (h5 c)⟩
def pM(ok:Nat→Prop)(w:World)(cs:List DV)(us:List Value):Prop:=
 us.length=cs.length∧∀(j:Nat) (c:DV) (u:Value),cs[j]?=some c→us[j]?=some u→X7 ok w c u
theorem pM.append{ok:Nat→Prop}{w:World}{a b:List DV}{us vs:List Value}(h:pM ok w a us)(h2:pM ok w b vs):pM ok w (a++b) (us++vs):=by
 refine⟨by simp[h.1,h2.1],fun j c u hc hu=>?_⟩
 by_cases hj:j<a.length
 ·rw[R2 hj] at hc
  rw[R2 (by rw[h.1];exact hj)] at hu;exact h.2 j c u hc hu
 ·rw[RT (by omega)] at hc
  rw[RT (by rw[h.1];omega),h.1] at hu;exact h2.2 _ c u hc hu
theorem XE(ok:Nat→Prop)(w:World)(sz:Nat):X7 ok w (.sl sz []) (.slice none 0 0):=
 .sl sz [] none 0 (fun _ _=>undef) (by simp) (by simp) (by simp) (by simp)
theorem pM.one{ok:Nat→Prop}{w:World}{c:DV}{u:Value}(h:X7 ok w c u):pM ok w [c] [u]:=by
 refine⟨rfl,fun j c' u' hc hu=>?_⟩
 match j with
 |0=>simp at hc hu;subst hc;subst hu;exact h
 |j+1=>simp at hc
section
variable {P:Program} {T:TypeId→TI} {H:Type} {enc:TypeId×Value→H} {w:World} {base:Nat} {spare:Nat→Bool} {held:Bool}
theorem mN(hT:ap P T){t:TypeId}(hk:(T t).kind≠.other):P.cellsOf t=(T t).size:=by obtain⟨i,_,h1,h2,_⟩:=(aP hT hk).info;simp[Program.cellsOf,h1,h2]
theorem Aw(hT:ap P T){t:TypeId}(hk:(T t).kind≠.other):P.bytesOf t=(T t).bytes:=by obtain⟨i,_,h1,_,h2,_⟩:=(aP hT hk).info;simp[Program.bytesOf,h1,h2]
theorem mF{e:TypeId}{d:DataW H}:∀{l:List (DataW H)},d∈l→∀ n,n∈d.weights P e→n∈DataW.weightsAll P e l
 |[],h,_,_=>by simp at h
 | x::l,h,n,hn=>by
   simp only[DataW.weightsAll,Sp];rcases RW.1 h with rfl|h
   ·exact .inl hn
   ·exact .inr (mF h n hn)
theorem o8{α β:Type}{f:α→Option β}:∀{l:List α} {r:List β},l.mapM f=some r→r.length=l.length∧∀(i:Nat) (x:α),l[i]?=some x→∃ y,r[i]?=some y∧f x=some y
 |[],r,h=>by simp at h;subst h;simp
 | x :: xs,r,h=>by
   rw[WD] at h;cases hx:f x with
   |none=>simp[hx] at h
   | some y=>
     cases hxs:xs.mapM f with
     |none=>simp[hx,hxs] at h
     | some ys=>
       simp[hx,hxs] at h;subst h;have ih:=o8 hxs;refine⟨by simp[ih.1],fun i z hz=>?_⟩
       match i with
       |0=>simp at hz;subst hz;exact⟨y,by simp,hx⟩
       |i+1=>exact ih.2 i z (by simpa using hz)
theorem Hx{a:Addr}{n:Nat}{cs:List Value}(h:w.cells? base a n=some cs):cs.length=n∧∀ i,i<n→w.cell? (a.add i)=cs[i]?∧(cs[i]?).isSome=true:=by
 unfold World.cells? at h;split at h
 ·obtain⟨h1,h2⟩:=o8 h
  refine⟨by simpa using h1,fun i hi=>?_⟩;obtain⟨y,hy,hc⟩:=h2 i i (by simp[hi]);rw[hy];exact⟨hc,rfl⟩
 ·cases h
theorem xQ{b:Nat}{a:Addr}{v:Value}(_hb:a.block=b)(h:w.cell? a=some v):a.spot=none:=by
 cases hsp:a.spot with
 |none=>rfl
 | some s=>
   simp only[World.cell?] at h;split at h
   ·simp[hsp] at h
   ·cases h
theorem Na{a:Addr}{v:Value}(h:w.cell? a=some v):a.block<w.heap.size:=by
 simp only[World.cell?] at h;rcases UM a.block w.heap.size with h'|h'
 ·exact h'
 ·simp[Wq h'] at h
theorem Az(a:Addr)(i:Nat)(h:(a.add i).spot=none):a.add i=⟨a.block,a.off+i,none⟩:=by
 unfold Addr.add at h ⊢;split
 ·rename_i h0
  subst h0;rw[RJ rfl] at h;cases a;simp_all
 ·rfl
theorem rM{α:Type}{p:Nat→α→Prop}:∀(n:Nat),(∀ i,i<n→∃ y,p i y)→∃ l:List α,l.length=n∧∀(i:Nat) (y:α),l[i]?=some y→p i y
 |0,_=>⟨[],rfl,by simp⟩
 | n+1,h=>by
   obtain⟨l,hl,hp⟩:=rM n fun i hi=>h i (by omega)
   obtain⟨y,hy⟩:=h n (by omega);refine⟨l++[y],by simp[hl],fun i z hz=>?_⟩;rcases aI hz with⟨h1,h2⟩|⟨h1,h2⟩
   ·exact hp i z h2
   ·subst h2;rw[h1,hl];exact hy
theorem rD{G:TypeId→DataW H×List MemPlace→Prop}{one:TypeId→List DV→Prop}{sup:TypeId→Bool}{r:TypeId→List Value→Option (DataW H×List MemPlace)}{ok:Nat→Prop}{N:Nat}{cs:List Value}(hN:cs.length=N)
  (hone:∀ t us y,sup t=true→r t us=some y→G t y→∃ ds,one t ds∧pM ok w ds us∧ds.length=(T t).size)
  (hcell:∀ t,sup t=true→P.cellsOf t=(T t).size):∀(fs:List (Nat×Nat×TypeId)) (fields:List Field) (o:Nat),rR o fs N=true→fields.length=fs.length→
  (∀(j:Nat) (o s t:Nat),fs[j]?=some (o,s,t)→∃ f,fields[j]?=some f∧f.offset=o∧f.type=t)→
  (∀(j:Nat) (f:Field),fields[j]?=some f→∃ y,r f.type ((cs.drop f.offset).take (P.cellsOf f.type))=some y∧G f.type y)→
  (∀ x,x∈fs→(T x.2.2).size=x.2.1∧sup x.2.2=true)→∃ ds,mD one fs ds∧pM ok w ds (cs.drop o)∧ds.length=N-o
 | [],fields,o,ht,_,_,_,_=>by
   simp only[rR,R1] at ht;subst ht;exact⟨[],rfl,⟨by simp[hN],by simp⟩,by simp⟩
 |(o',s,t)::fs,[],o,ht,hl,_,_,_=>by simp at hl
 | (o',s,t)::fs,f::fields,o,ht,hl,hf,hr,hx=>by
   simp only[rR,RU,R1] at ht;obtain⟨ho,ht⟩:=ht;subst ho;obtain⟨f',hf1,hf2,hf3⟩:=hf 0 o' s t rfl;simp at hf1;subst hf1;obtain⟨y,hy,hwy⟩:=hr 0 f rfl;obtain⟨hsz,hsup⟩:=hx (o',s,t) (by simp);simp only at hsz hsup;rw[hf2,hf3,hcell t hsup,hsz] at hy;rw[hf3] at hwy;obtain⟨d1,a1,a2,a3⟩:=hone t _ y hsup hy hwy;obtain⟨d2,b1,b2,b3⟩:=rD hN hone hcell fs fields (o'+s) ht (by simpa using hl) (fun j o s t hj=>hf (j+1) o s t (by simpa using hj)) (fun j g hj=>hr (j+1) g (by simpa using hj)) fun x hxm=>hx x (by simp[hxm])
   have hle:∀(fs:List (Nat×Nat×TypeId)) (o:Nat),rR o fs N=true→o≤N:=by
    intro fs
    induction fs with
    |nil=>intro o h;simp[rR] at h;omega
    | cons x fs ih=>
      intro o h;obtain⟨a,b,c⟩:=x;simp only[rR,RU,R1] at h
      have:=ih _ h.2;omega
   have:=hle _ _ ht;refine⟨d1++d2,⟨d1,d2,rfl,a1,b1⟩,?_,by simp[a3,b3,hsz];omega⟩;have e:cs.drop o'=(cs.drop o').take s++cs.drop (o'+s):=by rw[←SH,SN]
   rw[e];exact a2.append b2
theorem rk (hT:ap P T):∀(m n:Nat) (t:TypeId) (cs:List Value) (x:DataW H×List MemPlace),mC T m t=true→DataW.trod enc P w base spare held n t cs=some x→(∀ n,n∈x.1.weights P t→n≤reachBytes)→
  ∃ ds,(fb T m t ds∧∀ c,c∈ds→m7 x.1 c)∧pM (·<w.heap.size) w ds cs∧ds.length=(T t).size
 |0,_,_,_,_,hs,_,_=>by simp[mC] at hs
 |m+1,0,_,_,_,_,h,_=>by simp[DataW.trod] at h
 | m + 1,n+1,t,cs,x,hs,h,hwt=>by
   rw[DataW.trod_step] at h;unfold DataW.trodStep at h;simp only[mC] at hs;simp only[fb];split at hs
   ·rename_i hk
    simp only[hk,tv hT hk] at h ⊢;split at h<;>first|(exfalso;cases h;done)|(rename_i he;exfalso;cases he;done)|skip
    ·rename_i b he
     cases he;exact⟨[.bool b],⟨⟨b,rfl⟩,fun c hc bk N _=>by simp at hc;subst hc;exact .bool b⟩,.one (.bool b),by simp at hs;simp[hs]⟩
   ·rename_i hk
    simp only[hk,gB hT hk] at h ⊢;split at h<;>first|(exfalso;cases h;done)|(rename_i he;exfalso;cases he;done)|skip
    ·rename_i s he
     cases he;split at h
     ·rename_i hl
      refine⟨[.str s.data.toList],⟨⟨_,rfl,by cases h;exact hwt _ (by simp[DataW.weights])⟩,fun c hc bk N hN=>by
       simp at hc;subst hc;cases h;exact .str _ (R8 (bk.str _) hN)⟩,.one ?_,by simp at hs;simp[hs]⟩
      have:=X7.str (ok:=(·<w.heap.size)) (w:=w) s.data.toList;simpa[aW] using this
     ·cases h
   ·rename_i k hk
    simp only[hk,nl hT hk] at h ⊢;split at h<;>first|(exfalso;cases h;done)|(rename_i he;exfalso;cases he;done)|skip
    ·rename_i k2 v he
     cases he;split at h
     ·rename_i hc
      obtain⟨rfl,hw⟩:=hc;exact⟨[.int _ v],⟨⟨v,rfl,hw⟩,fun c hc bk N _=>by simp at hc;subst hc;exact .int _ v⟩,.one (.int _ v),by simp at hs;simp[hs]⟩
     ·cases h
   ·rename_i e hk
    simp only[RU,R1,RN] at hs;obtain⟨⟨hs1,hs2⟩,hs3⟩:=hs;simp only[hk,aC hT hk] at h ⊢;split at h<;>first|(exfalso;cases h;done)|(rename_i he;exfalso;cases he;done)|skip
    ·exact⟨[.sl (T e).size []],⟨⟨[],rfl,by simp,by simp,by simp⟩,fun c hc bk N _=>by simp at hc;subst hc;exact .sl _ _ (by simp) (by simp)⟩,.one (XE _ _ _),by simp[hs1]⟩
    ·rename_i e' a len cap he
     cases he;split at h
     ·rename_i hc
      obtain⟨hb,hl,hm⟩:=hc;simp only[RY,UF] at h;obtain⟨elems,hel,rest,hrest,hx⟩:=h;subst hx;obtain⟨hlen,hget⟩:=o8 hel;simp only[DataW.weights,aC hT hk] at hwt
      have hke:(T e).kind≠.other:=by
       intro he;cases m with
       |zero=>simp[mC] at hs3
       |succ m=>simp[mC,he] at hs3
      have hce:=mN hT hke
      have each:∀ i,i<len→∃ r:List DV,(fb T m e r∧∀ c,c∈r→m7 (.slice (elems.map (·.1)) (rest.map (·.1))) c)∧r.length=(T e).size∧∀(j:Nat) (c:DV),r[j]?=some c→∃ u,w.cell? ⟨a.block,a.off+(i*(T e).size+j),none⟩=some u∧X7 (·<w.heap.size) w c u∧(i=0→a.spot=none)∧a.block<w.heap.size:=by
       intro i hi;obtain⟨y,hye,hy⟩:=hget i i (by simp[hi]);have hwy:∀ n,n∈y.1.weights P e→n≤reachBytes:=fun n hn=>hwt n (Si _ (U1 _ (mF (SV.2 ⟨y,Sl hye,rfl⟩) n hn)))
       simp only[UF] at hy;obtain⟨cs',hcs,hy⟩:=hy;obtain⟨ds,h1,h2,h3⟩:=rk hT m n e cs' y hs3 hy hwy;refine⟨ds,⟨h1.1,fun c hc bk N hN=>h1.2 c hc bk N (R8 (bk.slice _ _ _ (SV.2 ⟨y,Sl hye,rfl⟩)) hN)⟩,h3,fun j c hj=>?_⟩;obtain⟨q1,q2⟩:=Hx hcs;have hjl:j<P.cellsOf e:=by rw[hce,←h3];exact(RM.1 hj).1
       obtain⟨q3,q4⟩:=q2 j hjl;obtain⟨u,hu⟩:=U9.1 q4;rw[hu] at q3
       have s2:(a.add (i*P.cellsOf e)).spot=none:=by
        obtain⟨q5,q6⟩:=q2 0 (by omega);obtain⟨u0,hu0⟩:=U9.1 q6;rw[hu0] at q5
        have:=xQ rfl q5;simpa[Addr.add] using this
       have hlt:a.block<w.heap.size:=by have:=Na q3;rwa[show((a.add (i*P.cellsOf e)).add j).block=a.block from by unfold Addr.add;split<;>split<;>rfl] at this
       have s1:((a.add (i*P.cellsOf e)).add j).spot=none:=xQ rfl q3;rw[Az _ _ s1,Az _ _ s2] at q3;exact⟨u,by rw[←hce,←q3];simp[SX],h2.2 j c u hj hu,(fun h0=>by subst h0;simpa[Addr.add] using s2),hlt⟩
      obtain⟨rows,hrl,hrows⟩:=rM (p:=fun i r=>(fb T m e r∧∀ c,c∈r→m7 (.slice (elems.map (·.1)) (rest.map (·.1))) c)∧r.length=(T e).size∧∀(j:Nat) (c:DV),r[j]?=some c→∃ u,w.cell? ⟨a.block,a.off+(i*(T e).size+j),none⟩=some u∧X7 (·<w.heap.size) w c u∧(i=0→a.spot=none)∧a.block<w.heap.size) len each;subst hrl;have hbytes:rows.length*(T e).bytes≤140737488351232:=by have h0:=hwt _ SF;rw[Aw hT hke,RO,RO,hlen,Vl] at h0;refine R8 (Sc _ (Vy _ _)) h0
      have hmax:rows.length≤9223372036854775807:=by unfold maxLen at hm;omega
      have hmem:∀ r,r∈rows→∃ i,rows[i]?=some r:=fun r hr=>UT.1 hr
      refine⟨[.sl (T e).size rows],⟨⟨rows,rfl,hbytes,hmax,fun r hr=>?_⟩,fun c hc bk N hN=>?_⟩,.one (.sl (T e).size rows (some a) cap (fun i j=>(w.cell? ⟨a.block,a.off+(i*(T e).size+j),none⟩).getD undef) hl (fun r hr=>?_) (fun hp=>?_) fun i r hi j c hj=>?_),by simp[hs1]⟩
      ·obtain⟨i,hi⟩:=hmem r hr;exact(hrows i r hi).1.1
      ·simp at hc;subst hc
       refine .sl _ _ ?_ fun r hr c hc=>?_
       ·have h4:bk.b (.slice (elems.map (·.1)) (rest.map (·.1)))≤N:=hN
        have h5:=bk.slen (elems.map (·.1)) (rest.map (·.1));have h6:=hlen;rw[RO] at h5;rw[Vl] at h6;omega
       ·obtain⟨i,hi⟩:=hmem r hr;exact(hrows i r hi).1.2 c hc bk N hN
      ·obtain⟨i,hi⟩:=hmem r hr;exact(hrows i r hi).2.1
      ·have h0:=hrows 0 rows[0] (RH hp)
       obtain⟨u,_,_,h3,h4⟩:=h0.2.2 0 (rows[0][0]'(by rw[h0.2.1];exact hs2)) (RH _);refine⟨a.block,a.off,by have:=h3 rfl;cases a;simp_all,h4,fun i r hi j c hj=>?_⟩;obtain⟨u,hu,_⟩:=(hrows i r hi).2.2 j c hj;rw[hu];rfl
      ·obtain⟨u,hu,hr,_⟩:=(hrows i r hi).2.2 j c hj
       rw[hu];exact hr
     ·cases h
   ·rename_i fs hk
    simp only[RU] at hs;obtain⟨hs1,hs2⟩:=hs;obtain⟨fields,hu,hfs,hf⟩:=js hT hk;simp only[hk,hu] at h ⊢;split at h<;>first|(exfalso;cases h;done)|(rename_i he;exfalso;cases he;done)|skip
    ·rename_i hlen
     simp only[RY] at h;obtain⟨xs,hxs,hx⟩:=h;subst hx;simp only[DataW.weights,hu] at hwt;obtain⟨hxl,hxg⟩:=o8 hxs
     have hco:∀ t',mC T m t'=true→P.cellsOf t'=(T t').size:=fun t' ht'=>mN hT (by
      intro he;cases m with
      |zero=>simp[mC] at ht'
      |succ m=>simp[mC,he] at ht')
     have hct:P.cellsOf t=(T t).size:=mN hT (by rw[hk];simp)
     obtain⟨ds,h1,h2,h3⟩:=rD (P:=P) (T:=T) (w:=w) (G:=fun t' y=>(∀ n,n∈y.1.weights P t'→n≤reachBytes)∧∀ bk:Bulk H,bk.b y.1≤bk.b (.agg (xs.map (·.1)))) (one:=fun t' ds=>fb T m t' ds∧∀ c,c∈ds→m7 (.agg (xs.map (·.1))) c) (sup:=mC T m) (r:=DataW.trod enc P w base spare held n) (ok:=(·<w.heap.size)) (N:=(T t).size) (cs:=cs) (hlen.trans hct)
      (fun t' us y hs' hy hwy=>by
       obtain⟨ds,h1,h2⟩:=rk hT m n t' us y hs' hy hwy.1
       exact⟨ds,⟨h1.1,fun c hc bk N hN=>h1.2 c hc bk N (R8 (hwy.2 bk) hN)⟩,h2⟩) hco fs fields.toList 0 hs1 (by simpa using hfs)
      (fun j o s t' hj=>by
       obtain⟨f,q1,q2,q3,_⟩:=hf j o s t' hj
       exact⟨f,by simpa using q1,q2,q3⟩)
      (fun j f hj=>by
       obtain⟨y,hye,hy⟩:=hxg j f (by simpa using hj)
       exact⟨y,hy,fun n hn=>hwt n (DataW.weights_mem_each (j:=j) (t:=f.type) (d:=y.1) (by simp at hj ⊢;exact⟨f,hj,rfl⟩) (by simp[hye]) n hn),fun bk=>bk.agg _ _ (SV.2 ⟨y,Sl hye,rfl⟩)⟩)
      (fun x hx=>by
       have:=S6.1 hs2 x hx;simp only[RU,R1] at this
       exact this)
     exact⟨ds,tC h1,by simpa using h2,by simpa using h3⟩
   ·simp at hs
end
open Go Go.RowKit Go.ChangeShapes Go.WideShapes Go.ChangeAt
section
variable {H:Type} {enc:TypeId×Value→H} {P:Program} {T:TypeId→TI}
theorem DS{f:Func}{s:ChangeSpec}{apart fresh handsOn again:Bool}{W W':World}{args:Array Value}{v:Value}{ds gs:List (DataW H)}{before pa pv:List MemPlace}
  (hW:DataW.Whole enc P f.params.toList s.vars apart W args.toList ds gs before)
  (hres:∀(b:Nat) (sp:Nat→Bool) (hd:Bool),DataW.TrodAll enc P W' b sp hd f.resultTypes.toList (v.resultList f.resultTypes.size) (s.fn H (ds++gs)).results [])
  (hargs:∀ sp:Nat→Bool,(∀ p∈before,sp p.block=true)→DataW.TrodAll enc P W' 0 sp true f.params.toList args.toList (s.fn H (ds++gs)).args pa)
  (hvars:∀ sp:Nat→Bool,(∀ p∈before,sp p.block=true)→DataW.TrodVars enc P W' sp s.vars (s.fn H (ds++gs)).vars pv)
  (hps:before=pa++pv) (hb:Below W.heap.size W W')
  (hok:∀(j:Nat) (t:TypeId) (r:Value),f.resultTypes[j]?=some t→(v.resultList f.resultTypes.size)[j]?=some r→Value.okWide P W' .any 0 t r) :
  s.post enc P f apart fresh handsOn again W args v W':=by
 have hlt:∀ p∈before,p.block<W.heap.size:=fun p hp=>hW.lt p hp
 have hold:∀ p∈before,(fun b=>decide (b<W.heap.size)) p.block=true:=fun p hp=>by simpa using hlt p hp
 refine⟨ds,gs,before,[],pa,pv,hW,hres _ _ _,hargs _ hold,hvars _ hold,World.keptBut_mono (fun p hp=>⟨hp,?_⟩) (hb.frame (·∈before)),fun _=>?_⟩
 ·rw[hps,Sp] at hp
  exact Or.inr hp
 ·obtain⟨_,_,_,_,_,hz,hn⟩:=hW
  refine⟨hok,_,_,([]++pa)++pv,⟨[]++pa,pv,trodAll_append (hargs _ (fun _ _=>rfl)) (hres _ _ _),hvars _ (fun _ _=>rfl),rfl,?_,?_⟩,?_⟩
  ·intro b off hp
   have hin:MemPlace.cell b off∈before:=by rw[hps];simpa using hp
   rw[hb.frozen (hlt _ hin)];exact hz b off hin
  ·intro ha
   have:=hn ha;rw[hps] at this;simpa using this
  ·intro p hp _
   rw[hps];simpa using hp
def HL(ti:TI)(ds:List DV):AV:=
 match ti.agg,ds with
 |true,ds=>.agg (ds.map .d)
 |false,[x]=>.d x
 |false,_=>.any
def uM(T:TypeId→TI)(m:Nat):List TypeId→List (List DV)→Prop
 |[],dss=>dss=[]
 |t::r,dss=>∃ d ds,dss=d::ds∧fb T m t d∧uM T m r ds
def qo(T:TypeId→TI):List TypeId→List (List DV)→List AV
 |t::r,d::ds=>HL (T t) d::qo T r ds
 |_,_=>[]
theorem Ie(hT:ap P T){m:Nat}{t:TypeId}(hs:mC T m t=true){W:World}{b0:Nat}{v:Value}(hval:Value.okWide P W .any b0 t v) :
  ((T t).agg=true∧∃ us,v=.agg us)∨((T t).agg=false∧v.cells=#[v]∧(T t).size=1):=by
 cases m with
 |zero=>simp[mC] at hs
 | succ m=>
   simp only[mC] at hs;split at hs
   ·rename_i hk
    obtain⟨b,rfl⟩:=okWide_bool (tv hT hk) hval;exact .inr ⟨by simp[TI.agg,hk],rfl,by simpa using hs⟩
   ·rename_i hk
    obtain⟨b,rfl⟩:=okWide_string (gB hT hk) hval;exact .inr ⟨by simp[TI.agg,hk],rfl,by simpa using hs⟩
   ·rename_i k hk
    obtain⟨b,rfl⟩:=okWide_int (nl hT hk) hval;exact .inr ⟨by simp[TI.agg,hk],rfl,by simpa using hs⟩
   ·rename_i e hk
    obtain⟨a,l,c,rfl⟩:=okWide_slice (aC hT hk) hval;simp only[RU,R1] at hs;exact .inr ⟨by simp[TI.agg,hk],rfl,hs.1.1⟩
   ·rename_i fs hk
    obtain⟨fields,hu,_⟩:=js hT hk;simp only[Value.okWide,hu] at hval;obtain⟨cs,rfl,_⟩:=hval;exact .inl ⟨by simp[TI.agg,hk],cs,rfl⟩
   ·simp at hs
theorem Nq(hT:ap P T){m:Nat}{t:TypeId}(hs:mC T m t=true){W:World}{b0:Nat}{v:Value}(hval:Value.okWide P W .any b0 t v){ok:Nat→Prop}(hok:∀ b,b<W.heap.size→ok b)
  {d:DataW H} {p:List MemPlace} {base:Nat} {sp:Nat→Bool} {held:Bool} (h:DataW.Trod enc P W base sp held t v d p) (hw:∀ n,n∈d.weights P t→n≤reachBytes):∃ ds,(fb T m t ds∧∀ c,c∈ds→m7 d c)∧RepV [] ok W (HL (T t) ds) v:=by
 obtain⟨n,h⟩:=h;obtain⟨ds,h1,h2,h3⟩:=rk hT m n t _ _ hs h hw;refine⟨ds,h1,?_⟩;have hmono:∀ b,b<W.heap.size→ok b∧W.heap[b]?=W.heap[b]?:=fun b hb=>⟨hok b hb,rfl⟩
 rcases Ie hT hs hval with⟨ha,us,rfl⟩|⟨ha,hv,hsz⟩
 ·simp only[HL,ha]
  have hl:=h2.1;simp only[Value.cells] at h2 hl
  have:=RepV.agg (ρ:=[]) (ok:=ok) (w:=W) (ds.map .d) us.toList (by simpa using hl) (fun u hu=>?_) (fun j c u hc hu=>?_)
  ·simpa using this
  ·obtain⟨j,hj⟩:=UT.1 hu
   have hjl:j<ds.length:=by rw[←hl];exact(RM.1 hj).1
   exact(h2.2 j _ u (RH hjl) hj).one
  ·rw[RS] at hc
   obtain⟨x,hx,rfl⟩:=RY.1 hc;exact .d _ _ ((h2.2 j x u hx hu).mono hmono)
 ·rw[hsz] at h3
  match ds,h3,h2 with
  | [x],_,h2=>
    simp only[HL,ha];rw[hv] at h2;exact .d _ _ ((h2.2 0 x v rfl rfl).mono hmono)
theorem Ch(hT:ap P T){m:Nat}{W:World}{b0:Nat}{ok:Nat→Prop}(hok:∀ b,b<W.heap.size→ok b){base:Nat}{sp:Nat→Bool}{held:Bool} :
  ∀(ts:List TypeId) (vs:List Value) (ds:List (DataW H)) (p:List MemPlace),(ts.all fun t=>mC T m t)=true→(∀(j:Nat) t v,ts[j]?=some t→vs[j]?=some v→Value.okWide P W .any b0 t v)→
  DataW.TrodAll enc P W base sp held ts vs ds p→(∀ n,n∈DataW.weightsEach P ts ds→n≤reachBytes)→∃ dss,(uM T m ts dss∧∀(bk:Bulk H) (N:Nat),(∀ d,d∈ds→bk.b d≤N)→∀ cs,cs∈dss→∀ c,c∈cs→Ya N c)∧ia [] ok W (qo T ts dss) vs
 |[],[],[],_,_,_,_,_=>⟨[],⟨rfl,by simp⟩,rfl,by simp[qo]⟩
 | t :: ts,v::vs,d::ds,p,hs,hval,h,hw=>by
   obtain⟨p1,p2,h1,h2,_⟩:=h;simp only[V7,RU] at hs;obtain⟨x,a1,a2⟩:=Nq hT hs.1 (hval 0 t v rfl rfl) hok h1 (fun n hn=>hw n (U1 _ hn));obtain⟨xs,b1,b2,b3⟩:=Ch hT hok ts vs ds p2 hs.2 (fun j t v ht hv=>hval (j+1) t v (by simpa using ht) (by simpa using hv)) h2 (fun n hn=>hw n (List.mem_append_right _ hn));refine⟨x::xs,⟨⟨x,xs,rfl,a1.1,b1.1⟩,fun bk N hN cs hcs c hc=>?_⟩,by simp[qo,b2],fun j c u hc hu=>?_⟩
   ·rcases RW.1 hcs with e|e
    ·subst e;exact a1.2 c hc bk N (hN d (SF ..))
    ·exact b1.2 bk N (fun d' hd'=>hN d' (Si _ hd')) cs e c hc
   match j with
   |0=>simp[qo] at hc hu;subst hc;subst hu;exact a2
   |j+1=>exact b3 j c u (by simpa[qo] using hc) (by simpa using hu)
 |[],[],_::_,_,_,_,h,_=>by simp[DataW.TrodAll] at h
 |[],_::_,_,_,_,_,h,_=>by simp[DataW.TrodAll] at h
 |_::_,[],_,_,_,_,h,_=>by simp[DataW.TrodAll] at h
 |_::_,_::_,[],_,_,_,h,_=>by simp[DataW.TrodAll] at h
theorem uN(hl:laidOutB P=true){W W':World}{sp':Nat→Bool}(hb:Below W.heap.size W W'):∀(ts:List TypeId) (vs:List Value) (ds:List (DataW H)) (p:List MemPlace),
  (∀ t∈ts,P.readableRec t=true∧t<P.types.size)→(∀ x∈p,x.block<W.heap.size)→(∀ x∈p,sp' x.block=true)→DataW.TrodAll enc P W 0 (fun _=>true) true ts vs ds p→DataW.TrodAll enc P W' 0 sp' true ts vs ds p
 |[],[],[],_,_,_,_,h=>h
 | t :: ts,v::vs,d::ds,p,hr,hlt,hs,h=>by
   obtain⟨p1,p2,h1,h2,rfl⟩:=h;have ht:=hr t (by simp)
   exact⟨p1,p2,WideElems.Trod_stays hl ht.1 ht.2 h1 (fun x hx=>hb.same (hlt x (by simp[hx]))) (fun x hx=>hs x (by simp[hx])),
    uN hl hb ts vs ds p2 (fun t ht=>hr t (by simp[ht])) (fun x hx=>hlt x (by simp[hx])) (fun x hx=>hs x (by simp[hx])) h2,rfl⟩
 |[],[],_::_,_,_,_,_,h=>by simp[DataW.TrodAll] at h
 |[],_::_,_,_,_,_,_,h=>by simp[DataW.TrodAll] at h
 |_::_,[],_,_,_,_,_,h=>by simp[DataW.TrodAll] at h
 |_::_,_::_,[],_,_,_,_,h=>by simp[DataW.TrodAll] at h
theorem xA{W:World}{base:Nat}{sp:Nat→Bool}{held:Bool}:∀(ts:List TypeId) (vs:List Value) (ds:List (DataW H)) (p:List MemPlace),DataW.TrodAll enc P W base sp held ts vs ds p→ds.length=ts.length
 |[],[],[],_,_=>rfl
 |_::ts,_::vs,_::ds,_,⟨_,q,_,h,_⟩=>by simp[xA ts vs ds q h]
 |[],[],_::_,_,h=>by simp[DataW.TrodAll] at h
 |[],_::_,_,_,h=>by simp[DataW.TrodAll] at h
 |_::_,[],_,_,h=>by simp[DataW.TrodAll] at h
 |_::_,_::_,[],_,h=>by simp[DataW.TrodAll] at h
theorem Im(hT:ap P T)(hl:laidOutB P=true){g:FuncId}{fn:Func}{s:ChangeSpec}{m:Nat}{tb:TypeId}
  (hps:(fn.params.toList.all fun t=>mC T m t)=true) (hrd:(fn.params.toList.all fun t=>P.readableRec t&&decide (t<P.types.size))=true)
  (hres:fn.resultTypes=#[tb]) (hb:P.underlying tb=some .bool) (hvars:s.vars=[])
  (hs:∀ ds:List (DataW H),ds.length=fn.params.size→s.fn H ds={ results:=[.lit (.bool true)],args:=ds })
  {apart fresh handsOn again:Bool} {W:World} {base:Nat} {args:Array Value} {ds gs:List (DataW H)} {before:List MemPlace}
  (hc:∀ dss,uM T m fn.params.toList dss→(∀(bk:Bulk H) (N:Nat),(∀ d,d∈ds++gs→bk.b d≤N)→∀ cs,cs∈dss→∀ c,c∈cs→Ya N c)→ab P [] g (qo T fn.params.toList dss) (fun v _=>v=B true))
  (ht:eY W) (hval:∀(j:Nat) (t:TypeId) (v:Value),fn.params[j]?=some t→args[j]?=some v→Value.okWide P W .any base t v)
  (hW:DataW.Whole enc P fn.params.toList s.vars apart W args.toList ds gs before)
  (hwt:(DataW.weightsEach P (fn.params.toList++s.plain.varTypes P) (ds++gs)).all (·≤reachBytes)=true) :
  Calls P g args W fun e W'=>∃ v,e=.returned v∧s.post enc P fn apart fresh handsOn again W args v W':=by
 have hW':=hW;obtain⟨p,q,hA,hV,rfl,hfz,hnd⟩:=hW;rw[hvars] at hV;obtain⟨rfl,rfl⟩:=trodVars_none hV;have hlen:=xA _ _ _ _ hA
 let E:Ent:={ w0:=W,L0:=fun _=>False,S0:=(·<W.heap.size),ρ0:=[],hS:=fun b hb=>⟨hb,fun h=>h⟩,hL:=fun b hb=>hb.elim,hT:=ht,hTL:=fun _ _ h=>h }
 have hH:X5 E [] [] W:=⟨rfl,by simp,by simp,by simp,Fr.refl _ _⟩
 obtain⟨dss,h1,h2⟩:=Ch (ok:=okB E [] [] W) hT (fun b hb=>⟨.inl hb,hb,fun⟨k,x,m,hk,_⟩=>by simp at hk⟩) fn.params.toList args.toList ds p hps (fun j t v ht hv=>hval j t v (by simpa using ht) (by simpa using hv)) hA
  (fun n hn=>by
   have hv0:s.plain.varTypes P=[]:=by simp[DataSpec.varTypes,ChangeSpec.plain,hvars]
   rw[hv0,Se,Se] at hwt
   simpa using List.all_eq_true.1 hwt n hn)
 have hcall:=(hc dss h1.1 (fun bk N hN=>h1.2 bk N fun d hd=>hN d (U1 _ hd))).2 E W args.toList rfl hH h2;rw[show args.toList.toArray=args from by simp] at hcall;refine hcall.mono fun e W' hh=>?_
 obtain⟨u,v,hp',ρ',rfl,hv,hR,_,hu⟩:=hh;subst hv;have hu:u=.bool true:=by cases hu with|d _ _ h=>cases h;rfl
 subst hu;have hbel:Below W.heap.size W W':=⟨hR.fr.os,hR.fr.tape,hR.fr.output,hR.fr.size,fun b hb=>hR.fr.block b hb (fun h=>h)⟩;have hsd:=hs ds (by simpa using hlen);have hlt:∀ x∈p,x.block<W.heap.size:=fun x hx=>hA.lt x hx
 refine⟨_,rfl,DS (pa:=p) (pv:=[]) hW' (fun _ _ _=>?_) (fun sp hsp=>?_) (fun _ _=>?_) rfl hbel ?_⟩
 ·rw[Se,hsd,hres]
  exact trodAll_mk1 (shut_bool hb _)
 ·rw[Se,hsd]
  refine uN hl hbel _ _ _ _ (fun t ht=>?_) hlt (fun x hx=>hsp x (by simpa using hx)) hA
  have:=S6.1 hrd t ht;simpa using this
 ·rw[hvars,Se,hsd];rfl
 ·rw[hres]
  exact fun j t r hj hr=>ok_one (by rw[hres]) rfl (okWide_bool_mk hb _) j t r (by rw[hres];exact hj) (by rw[hres];exact hr)
end
def ret(x:AV):AV→List ABlk→Prop:=fun v hp=>v=x∧hp=[]
section
variable {P:Program} {hp:List ABlk} {g:FuncId} {xs ys:List AV} {x:AV} {u0:Value} {K:AV→List ABlk→Prop}
mutual
theorem kF(f:Nat→Nat):∀(x:AV),cp x→renV f x=x∧inV 0 x
 |.d _,_=>⟨rfl,Yj⟩
 |.agg cs,h=>⟨by simp only[renV];rw[(eu f cs h).1],(eu f cs h).2⟩
 |.tup cs,h=>⟨by simp only[renV];rw[(eu f cs h).1],(eu f cs h).2⟩
 |.dp _ _,_=>⟨rfl,Yj⟩
 |.any,_=>⟨rfl,Yj⟩
 |.ptr _ _,h=>h.elim
 |.rp _ _ _ _,h=>h.elim
 |.osl _ _ _ _,h=>h.elim
 |.clo _ _ _,h=>h.elim
 |.gd _ _,h=>h.elim
theorem eu(f:Nat→Nat):∀(l:List AV),cF l→renL f l=l∧inL 0 l
 |[],_=>⟨rfl,Yj⟩
 |x::l,h=>⟨by simp only[renL];rw[(kF f x h.1).1,(eu f l h.2).1],(kF f x h.1).2,(eu f l h.2).2⟩
end
theorem tx{bl:List ABlk}{np:Nat}{t:Tok K}(c:ab P [] g ys (fun v h=>v=x∧h=bl))(hq:np=0∨dB xs=[])(e:gD (dh hp xs) ys)(hf:ch hp xs)(hn:cF (dh hp xs))
  (hK:K (renV (bN [] (killIds (dB xs) hp).length) x) (killIds (dB xs) hp++d9 (bN [] (killIds (dB xs) hp).length) bl)):cQ P np hp g xs K t:=by
 have hi:=eu (mAt [] (killIds (dB xs) hp).length) (dh hp xs) hn;have c2:=BK (hp:=killIds (dB xs) hp) (K:=K) (c.coe e) hi.2 hi.1 fun v hp' h=>by obtain⟨rfl,rfl⟩:=h;exact hK
 refine .inl ⟨c.1,fun E ρ w us hnp hH hus=>?_⟩;have hs:=HStep.killIds hH (dB xs)
 have hus':ia ρ (okB E ρ (killIds (dB xs) hp) w) w (dh hp xs) us:=by
  refine⟨by rw[fd];exact hus.1,fun j y u hy hu=>?_⟩;have hy0:=hy;rw[eC] at hy;obtain⟨z,hz,rfl⟩:=RY.1 hy;have hzr:=hus.2 j z u hz hu;rcases hq with h0|h0
  ·exact Bj hH (Sf (by rw[hnp];exact h0)) hzr (fun k hk=>kx hz hk) (eq hf hz) (dc hn hy0)
  ·have:=nR hH.blks (fun b hb=>(hs.ok b hb).1) hzr (fun k hk=>by have:=kx hz hk;rw[h0] at this;cases this) (eq hf hz) (dc hn hy0)
   exact jc (fun b hb=>⟨hb,rfl⟩) this (dc hn hy0)
 refine(c2.2 E ρ w us hs.heap hus').mono fun e w' ⟨u,v,hp',ρ',h1,h2,h3,h4⟩=>⟨u,v,hp',ρ',h1,h2,hs.trans h3,h4⟩
theorem acallH_sc{np:Nat}(c:ab P [] g ys (ret x))(e:dh hp xs=ys)(hsc:bv x=some u0)(hf:ch hp xs)(hn:cF ys){t:Tok K}(hK:K x hp):cQ P np hp g xs K t:=by subst e;exact kU (su (c.mono fun v hp' h=>h.1) hsc hf hn hK)
theorem C4{np:Nat}(c:ab P [] g ys (ret x))(e:gD (dh hp xs) ys)(hsc:bv x=some u0)(hf:ch hp xs)(hn:cF (dh hp xs)){t:Tok K}(hK:K x hp):cQ P np hp g xs K t:=
 kU (su ((c.coe e).mono fun v hp' h=>h.1) hsc hf hn hK)
theorem acallQ_sc{K:AV→Prop}(c:ab P [] g ys (ret x))(e:dh hp xs=ys)(hsc:bv x=some u0)(hf:ch hp xs)(hn:cF ys){t:Tok K}(hK:K x):nH P hp g xs K t:=by subst e;exact⟨x,.inl (rb (c.mono fun v hp' h=>h.1) hsc hf hn),hK⟩
theorem HR{T:TypeId→TI}{s:ASt}{e:Exit}{rs:List ResultVar}(he:e=.ret∨e=.normal)(h0:s.np=0)(h1:(bh T s rs).1)
  (h2:cc s.hp (du (bh T s rs).2)) (h3:cp (bt s.hp (du (bh T s rs).2))) (hR:bt s.hp (du (bh T s rs).2)=x):nV T rs (ret x) e s:=
 Ha he h0 h1 h2 h3 ⟨hR,rfl⟩
abbrev okI(n:Int):Prop:=-9223372036854775808≤n∧n≤9223372036854775807
theorem ng(n:Int)(h:okI n):IntKind.i64.wrap n=n:=by rw[UG];unfold okI at h;omega
end
def jS(env:List (Nat×AV)):List Nat→List (Nat×AV)
 |[]=>[]
 |t::r=>(t,cy env t)::jS env r
def jx(env:List (Nat×AV)):List (Nat×AV)→Prop
 |[]=>True
 |(t,v)::r=>cy env t=v∧jx env r
theorem uh{env:List (Nat×AV)}:∀{env':List (Nat×AV)},jx env env'→∀ t,cy env' t=.any∨cy env t=cy env' t
 |[],_,_=>.inl rfl
 | (k,v)::r,h,t=>by
   simp only[cy]
   by_cases e:k=t
   ·subst e;rw[RJ rfl];exact .inr h.1
   ·rw[RI e];exact uh h.2 t
theorem n9{env:List (Nat×AV)}:∀{a b:List (Nat×AV)},jx env a→jx env b→jx env (a++b)
 |[],_,_,h=>h
 |(_,_)::_,_,h1,h=>⟨h1.1,n9 h1.2 h⟩
theorem rX{env:List (Nat×AV)}:∀{ks:List Nat},jx env (jS env ks)
 |[]=>trivial
 |_::_=>⟨rfl,rX⟩
section
variable {P:Program} {T:TypeId→TI} {s:ASt} {Q:Exit→ASt→Prop} {c x y:Code} {np nt:Nat} {env env':List (Nat×AV)} {hp:List ABlk}
theorem ax.same(h:jx env env'):ax { np:=np,nt:=nt,env:=env,hp:=hp } { np:=np,nt:=nt,env:=env',hp:=hp }:=by
 intro E ρ a w hr;refine⟨ρ,hr.np,hr.nodef,hr.nt,fun t=>?_,hr.heap,hr.pre⟩;rcases uh h t with e|e
 ·simp only[e];exact .any _
 ·simp only[←e];exact hr.env t
theorem XB{ι:Type}(Inv:ι→Prop)(μ:ι→Nat)(st:ι→ASt)(h0:∃ i,Inv i∧ax s (st i))
  (round:∀ i,Inv i→AWP P c (st i) (ie (fun s'=>∃ j,Inv j∧μ j<μ i∧ax s' (st j)) Q)):AWP P (.loop c) s Q:=by
 refine AWP.loop (ι:={ i:ι // Inv i }) (fun i=>μ i.1) (fun i=>st i.1) ?_ fun i=>?_
 ·obtain⟨i,h1,h2⟩:=h0
  exact⟨⟨i,h1⟩,h2⟩
 ·refine(round i.1 i.2).mono fun e s' hq=>?_
  cases e with
  |normal=>obtain⟨j,h1,h2,h3⟩:=hq;exact⟨⟨j,h1⟩,h2,h3⟩
  |_=>exact hq
theorem Xd{ι:Type}(Inv:ι→Prop)(μ:ι→Nat)(ks:List Nat)(upd:ι→List (Nat×AV))(i0:ι)(hi:Inv i0)(hu:jx env (upd i0))
  (round:∀ i,Inv i→AWP P c { np:=np,nt:=nt,env:=upd i++jS env ks,hp:=hp }
   (ie (fun s'=>∃ j,Inv j∧μ j<μ i∧ax s' { np:=np,nt:=nt,env:=upd j++jS env ks,hp:=hp }) Q)) :
  AWP P (.loop c) { np:=np,nt:=nt,env:=env,hp:=hp } Q:=
 XB Inv μ (fun i=>{ np:=np,nt:=nt,env:=upd i++jS env ks,hp:=hp }) ⟨i0,hi,ax.same (n9 hu rX)⟩ round
theorem W9{ι:Type}(Inv:ι→Prop)(μ:ι→Nat)(ks:List Nat)(upd:ι→List (Nat×AV))(hpf:ι→List ABlk)(i0:ι)(hi:Inv i0)
  (hu:ax { np:=np,nt:=nt,env:=env,hp:=hp } { np:=np,nt:=nt,env:=upd i0++jS env ks,hp:=hpf i0 })
  (round:∀ i,Inv i→AWP P c { np:=np,nt:=nt,env:=upd i++jS env ks,hp:=hpf i }
   (ie (fun s'=>∃ j,Inv j∧μ j<μ i∧ax s' { np:=np,nt:=nt,env:=upd j++jS env ks,hp:=hpf j }) Q)) :
  AWP P (.loop c) { np:=np,nt:=nt,env:=env,hp:=hp } Q:=
 XB Inv μ (fun i=>{ np:=np,nt:=nt,env:=upd i++jS env ks,hp:=hpf i }) ⟨i0,hi,hu⟩ round
theorem Xc{v v':AV}{hp':List ABlk}{R:AV→List ABlk→Prop}(h:ax { np:=np,nt:=1,env:=[(0,v)],hp:=hp } { np:=np,nt:=1,env:=[(0,v')],hp:=hp' })(h2:af np hp' v' R):af np hp v R:=by
 intro E ρ w u hnp hH hpre hv
 have hr:Rep E { np:=np,nt:=1,env:=[(0,v)],hp:=hp } ρ { tmps:=#[u],defers:=[] } w:=by
  refine⟨hnp,rfl,rfl,fun t=>?_,hH,hpre⟩;simp only[cy]
  by_cases e:0=t
  ·subst e;simpa using hv
  ·rw[RI e];exact .any _
 obtain⟨ρ',hr'⟩:=h E ρ _ w hr;have hv':=hr'.env 0;simp only[cy,S9] at hv';exact h2 E ρ' w u hr'.np hr'.heap hr'.pre (by simpa using hv')
theorem af.same{v:AV}{R:AV→List ABlk→Prop}(h:R v hp):af np hp v R:=fun _ ρ _ _ _ hH hpre hv=>⟨v,hp,ρ,h,hH,hpre,hv⟩
theorem af.post{v y x:AV}(h:af np hp v (ret y))(hc:dM y x):af np hp v (ret x):=by intro E ρ w u h1 h2 h3 h4;obtain⟨v',hp',ρ',⟨rfl,rfl⟩,q1,q2,q3⟩:=h E ρ w u h1 h2 h3 h4;exact⟨x,[],ρ',⟨rfl,rfl⟩,q1,q2,sK q3 x hc⟩
theorem GL{T:TypeId→TI}{s:ASt}{e:Exit}{rs:List ResultVar}{x:AV}(he:e=.ret∨e=.normal)(h0:s.np=0)(h1:(bh T s rs).1)
  (h2:cc s.hp (du (bh T s rs).2)) (h3:cp (bt s.hp (du (bh T s rs).2))) (hR:dM (bt s.hp (du (bh T s rs).2)) x):nV T rs (ret x) e s:=by
 have:af s.np s.hp (du (bh T s rs).2) (ret x):=by rw[h0];exact af.post (af.data h2 h3 ⟨rfl,rfl⟩) hR
 rcases he with rfl|rfl
 ·exact⟨h1,this⟩
 ·exact⟨h1,this⟩
theorem bK{T:TypeId→TI}{s:ASt}{e:Exit}{rs:List ResultVar}{R:AV→List ABlk→Prop}(he:e=.ret∨e=.normal)(h1:(bh T s rs).1)(h2:af s.np s.hp (du (bh T s rs).2) R):nV T rs R e s:=by
 rcases he with rfl|rfl
 ·exact⟨h1,h2⟩
 ·exact⟨h1,h2⟩
def dr(x:AV)(bl:List ABlk):AV→List ABlk→Prop:=fun v hp=>v=x∧hp=bl
abbrev own(sz:Nat)(rows:List (List DV)):AV→List ABlk→Prop:=dr (.osl 0 sz 0 rows.length) [.rows sz rows]
theorem XO{sz n:Nat}{rs:List (List DV)}(k:Nat)(hk:hp[k]?=some (.rows sz rs))(hn:n=rs.length):af 0 hp (.osl k sz 0 n) (own sz rs):=by
 subst hn;have hlt:k<hp.length:=(RM.1 hk).1;refine Xc (v':=.osl 0 sz 0 rs.length) (hp':=[.rows sz rs]) (ax.frame [k] rfl (fun i hi=>by simp at hi;omega) (by simp) (fun k hk=>by omega) ?_ ?_) (af.same ⟨rfl,rfl⟩)
 ·exact⟨⟨by simp[cy,renV,mAt],by simp[inV]⟩,Yj⟩
 ·exact⟨.inr ⟨by simp[mAt,renB,hk],by simp[inB]⟩,Yj⟩
theorem XG{sz:Nat}:af 0 hp (.d (.sc (.slice none 0 0))) (own sz []):=by
 refine Xc (v':=.osl 0 sz 0 0) (hp':=[.rows sz []]) (ax.trans (Xf 0 sz rfl) (ax.frame [hp.length] rfl (fun i hi=>by simp at hi;simp;omega) (by simp) (fun k hk=>by omega) ?_ ?_)) (af.same ⟨rfl,rfl⟩)
 ·exact⟨⟨by simp[cy,renV,mAt],by simp[inV]⟩,Yj⟩
 ·exact⟨.inr ⟨by simp[mAt,renB],by simp[inB]⟩,Yj⟩
theorem mI{T:TypeId→TI}{s:ASt}{e:Exit}{rs:List ResultVar}{sz n:Nat}{rows:List (List DV)}(k:Nat)(he:e=.ret∨e=.normal)(h0:s.np=0)(h1:(bh T s rs).1)
  (hv:du (bh T s rs).2=.osl k sz 0 n) (hk:s.hp[k]?=some (.rows sz rows)) (hn:n=rows.length):nV T rs (own sz rows) e s:=
 bK he h1 (by rw[h0,hv];exact XO k hk hn)
theorem m6{T:TypeId→TI}{s:ASt}{e:Exit}{rs:List ResultVar}{sz:Nat}(he:e=.ret∨e=.normal)(h0:s.np=0)(h1:(bh T s rs).1)
  (hv:du (bh T s rs).2=.d (.sc (.slice none 0 0))):nV T rs (own sz []) e s:=
 bK he h1 (by rw[h0,hv];exact XG)
end
section
variable {P:Program} {hp:List ABlk} {g:FuncId} {xs ys:List AV} {x:AV} {u0:Value}
theorem Co{np:Nat}{K:AV→List ABlk→Prop}{t:Tok K}(c:ab P [] g ys (ret x))(hsc:bv x=some u0)(h:gD (dh hp xs) ys∧ch hp xs∧cF (dh hp xs))(hK:K x hp):cQ P np hp g xs K t:=
 C4 c h.1 hsc h.2.1 h.2.2 hK
theorem Dr{K:AV→Prop}{t:Tok K}(c:ab P [] g ys (ret x))(hsc:bv x=some u0)(h:gD (dh hp xs) ys∧ch hp xs∧cF (dh hp xs))(hK:K x):nH P hp g xs K t:=
 ⟨x,.inl (rb ((c.coe h.1).mono fun v hp' h=>h.1) hsc h.2.1 h.2.2),hK⟩
theorem BB{np:Nat}{bl:List ABlk}{K:AV→List ABlk→Prop}{t:Tok K}(c:ab P [] g ys (fun v h=>v=x∧h=bl))(h:(np=0∨dB xs=[])∧gD (dh hp xs) ys∧ch hp xs∧cF (dh hp xs))
  (hK:K (renV (bN [] (killIds (dB xs) hp).length) x) (killIds (dB xs) hp++d9 (bN [] (killIds (dB xs) hp).length) bl)):cQ P np hp g xs K t:=
 tx c h.1 h.2.1 h.2.2.1 h.2.2.2 hK
theorem AD{np:Nat}{bl:List ABlk}{K:AV→List ABlk→Prop}{t:Tok K}(c:ab P [] g ys (fun v h=>v=x∧h=bl))(e:xs=ys)(h:dB xs=[]∧dh hp xs=xs∧ch hp xs∧cF xs)
  (hK:K (renV (bN [] hp.length) x) (hp++d9 (bN [] hp.length) bl)):cQ P np hp g xs K t:=by
 subst e;refine tx c (.inr h.1) ?_ h.2.2.1 (by rw[h.2.1];exact h.2.2.2) (by rw[h.1];exact hK);rw[h.2.1];exact iS xs
end
theorem F7(env:List (Nat×AV)):jS env []=[]:=rfl
theorem Eb(env:List (Nat×AV))(t:Nat)(r:List Nat):jS env (t::r)=(t,cy env t)::jS env r:=rfl
theorem D5(env:List (Nat×AV)):jx env []=True:=rfl
theorem AG(env:List (Nat×AV))(t:Nat)(v:AV)(r:List (Nat×AV)):jx env ((t,v)::r)=(cy env t=v∧jx env r):=rfl
attribute [go_sem ↓] reduceIte
attribute [go_sem] reduceCtorEq Nat.reduceAdd Nat.reduceSub Nat.reduceMul Nat.reducePow Nat.reduceDiv Nat.reduceMod Nat.reduceLT Nat.reduceLeDiff Nat.reduceEqDiff Nat.reduceBEq Int.reduceToNat Int.reduceLT Int.reduceLE Int.reduceAdd Int.reduceSub Int.reduceMul Int.reducePow Int.reduceNeg Int.reduceEq
attribute [go_sem] Int.toNat_natCast Int.cast_ofNat_Int Bool.not_eq_true' Bool.not_eq_false' ge_iff_le gt_iff_lt ne_eq not_false_eq_true not_true_eq_false Nat.one_ne_zero beq_self_eq_true Bool.bne_false Nat.zero_add
attribute [go_sem] F7 Eb D5 AG
theorem aa(n:Int)(h1:-9223372036854775808≤n)(h2:n≤9223372036854775807):IntKind.i64.wrap n=n:=ng n ⟨h1,h2⟩
def inl(K:AV→List ABlk→Prop):AV→List ABlk→Prop:=K
section
variable {P:Program} {T:TypeId→TI} {np:Nat} {hp:List ABlk} {g:FuncId} {xs:List AV} {K:AV→List ABlk→Prop} {t:Tok K}
theorem bJ(h:∀ K':AV→List ABlk→Prop,(∀ v hp,K v hp→K' v hp)→ab P hp g xs (inl K')):cQ P np hp g xs K t:=by
 have c:=h K fun _ _ h=>h
 refine .inl ⟨c.1,fun E ρ w us _ hH hus=>?_⟩
 let E':Ent:={ w0:=w,L0:=fun b=>fH ρ hp b,S0:=fun b=>okB E ρ hp w b,ρ0:=ρ,hS:=fun b h=>⟨h.2.1,h.2.2⟩,hL:=fun b ⟨k,_,q,_,_,hk⟩=>⟨k,q,hk⟩,hT:=hH.tabsAt,hTL:=fun p hp' hl=>hH.tabLive hp' hl }
 have hokc:∀ b,okB E ρ hp w b→okB E' ρ hp w b∧w.heap[b]?=w.heap[b]?:=fun b hb=>⟨⟨.inl hb,hb.2.1,hb.2.2⟩,rfl⟩
 have hE:X5 E' ρ hp w:=by refine⟨hH.len,fun k x b q hx hk hd=>?_,hH.nil,hH.inj,Fr.refl _ _⟩;obtain⟨_,o,q2,q3⟩:=hH.obj k x b q hx hk hd;exact⟨.inl ⟨k,x,q,hx,hd,hk⟩,o,q2,q3.mono (fun _ _ h=>h) hokc⟩
 have hav:ia ρ (okB E' ρ hp w) w xs us:=⟨hus.1,fun j x u hx hu=>(hus.2 j x u hx hu).mono (fun _ _ h=>h) hokc⟩;refine(c.2 E' w us rfl hE hav).mono fun e w' hh=>?_
 obtain⟨u,v,hp',ρ',h1,h2,h3,h4,h5⟩:=hh;have hsz0:=hH.fr.size
 have hokE:∀ b,okB E' ρ' hp' w' b→okB E ρ' hp' w' b∧w'.heap[b]?=w'.heap[b]?:=by
  intro b ⟨b1,b2,b3⟩;refine⟨⟨?_,b2,b3⟩,rfl⟩;rcases b1 with b1|b1
  ·exact b1.1
  ·exact .inr (R8 hsz0 b1)
 have hcb:∀ b,fH ρ' hp' b→(fH ρ hp b∨w.heap.size≤b):=by intro b ⟨i,x,q,hx,hd,hi⟩;exact(h3.obj i x b q hx hi hd).1
 have hokC:∀ b,okB E ρ hp w b→okB E ρ' hp' w' b∧w'.heap[b]?=w.heap[b]?:=by
  intro b ⟨b1,b2,b3⟩;refine⟨⟨b1,SL b2 h3.fr.size,fun hl=>?_⟩,h3.fr.block b b2 b3⟩;rcases hcb b hl with hl|hl
  ·exact b3 hl
  ·omega
 refine⟨u,v,hp',ρ',h1,h2,⟨⟨h3.len,fun k x b q hx hk hd=>?_,h3.nil,h3.inj,?_⟩,h4,hokC⟩,h5.mono (fun _ _ h=>h) hokE⟩
 ·obtain⟨q1,o,q2,q3⟩:=h3.obj k x b q hx hk hd
  refine⟨?_,o,q2,q3.mono (fun _ _ h=>h) hokE⟩;rcases q1 with⟨k',z,q',hz,hzd,hk'⟩|q1
  ·exact(hH.obj k' z b q' hz hk' hzd).1
  ·exact .inr (R8 hsz0 q1)
 ·refine⟨h3.fr.os.trans hH.fr.os,h3.fr.tape.trans hH.fr.tape,h3.fr.output.trans hH.fr.output,R8 hsz0 h3.fr.size,fun b hb hL=>?_⟩
  have:w'.heap[b]?=w.heap[b]?:=h3.fr.block b (SL hb hsz0) (fun hl=>by
   obtain⟨k,x,q,hx,hd,hk⟩:=hl;rcases(hH.obj k x b q hx hk hd).1 with c1|c1
   ·exact hL c1
   ·omega)
  exact this.trans (hH.fr.block b hb hL)
theorem aend_in{s:ASt}{e:Exit}{rs:List ResultVar}{v:AV}{K0:AV→List ABlk→Prop}(hK:∀ v hp,K0 v hp→K v hp)(he:e=.ret∨e=.normal)(h1:(bh T s rs).1)(hv:du (bh T s rs).2=v)(h:K0 v s.hp) :
  nV T rs (inl K) e s:=by
 subst hv;have h:=hK _ _ h
 have:af s.np s.hp (du (bh T s rs).2) (inl K):=af.same h;rcases he with rfl|rfl
 ·exact⟨h1,this⟩
 ·exact⟨h1,this⟩
end
section
variable {P:Program} {T:TypeId→TI} {E:Ent} {ρ:List (Option (Nat×Nat))} {w:World} {np nt:Nat} {env:List (Nat×AV)} {hp:List ABlk} {c:Code} {Q:Exit→ASt→Prop}
theorem Xm(h:X5 E ρ hp w){k b m:Nat}{x x':ABlk}(hx:hp[k]?=some x)(hd:x≠.dead)(hd':x'≠.dead)(hk:ρ[k]?=some (some (b,m)))(hb0:∀ l,x≠.bytes l)
  (hb:∀ us ty fz,w.heap[b]?=some (.cells us ty fz)→us.size=m→eo ρ (okB E ρ hp w) w us x→eo ρ (okB E ρ hp w) w us x') (hm:x.isObj=false:=by rfl) (hm':x'.isObj=false:=by rfl):HStep E ρ hp w ρ (hp.set k x') w:=by
 obtain⟨_,us,ty,fz,q2,q3,_,q5⟩:=h.blk k x b m hx hk ⟨hd,hm⟩
 have:=HStep.set h hx hd hd' hk q2 (us':=us) rfl (fun l e=>absurd e (hb0 l)) (hb us ty fz q2 q3 q5) hm hm';rwa[xg w b _ q2] at this
theorem Xk(t:Nat){k sz off n:Nat}{rs:List (List DV)}(ht:cy env t=.osl k sz off n)(hn:0<n)(hk:hp[k]?=some (.rows sz rs))(hpos:0<sz)
  (h:∀ junk:List (List DV),(∀ r,r∈junk→r.length=sz)→off+n≤(rs++junk).length→AWP P c { np:=np,nt:=nt,env:=env,hp:=hp.set k (.full sz (rs++junk)) } Q) :
  AWP P c { np:=np,nt:=nt,env:=env,hp:=hp } Q:=by
 intro E ρ a w hr;have hv:=hr.env t;simp only[ht] at hv;generalize hu:a.tmps.getD t undef=u at hv;cases hv with
 |oslnil _ _ A _=>omega
 | osl _ _ _ _ b m cap hkk hm hnc=>
   obtain⟨_,us,ty,fz,q2,q3,_,hone,hrl,hsz,hrr⟩:=hr.heap.blk k _ b m hk hkk (by simp);have hM:rs.length≤off+cap:=by rw[←hm] at q3;rw[q3] at hsz;exact Nat.le_of_mul_le_mul_right hsz hpos
   let junk:List (List DV):=(List.range (off+cap-rs.length)).map fun i=>(List.range sz).map fun j=>DV.sc (us.getD ((rs.length+i)*sz+j) undef)
   have hjl:∀ r,r∈junk→r.length=sz:=fun r hr=>by obtain⟨i,_,rfl⟩:=SV.1 hr;simp
   have hjn:junk.length=off+cap-rs.length:=by simp[junk]
   have hst:HStep E ρ hp w ρ (hp.set k (.full sz (rs++junk))) w:=by
    refine Xm hr.heap hk (by simp) (by simp) hkk (by simp) fun us' ty' fz' hw' hm' _=>?_
    rw[q2] at hw';injection hw' with hw';injection hw' with e1 e2 e3;subst e1;refine⟨hone,fun r hr=>?_,?_,fun i r hi j c u hj hu=>?_⟩
    ·rcases Sp.1 hr with hr|hr
     ·exact hrl r hr
     ·exact hjl r hr
    ·rw[RL,hjn,q3,←hm];congr 1;omega
    ·by_cases hil:i<rs.length
     ·rw[R2 hil] at hi
      exact hrr i r hi j c u hj hu
     ·rw[RT (by omega)] at hi
      simp only[junk,RS] at hi;obtain⟨i',hi',rfl⟩:=RY.1 hi;obtain⟨hi1,hi2⟩:=RM.1 hi';simp only[Uo] at hi2;subst hi2;rw[RS] at hj;obtain⟨j',hj',rfl⟩:=RY.1 hj;obtain⟨hj1,hj2⟩:=RM.1 hj';simp only[Uo] at hj2;subst hj2;have e:rs.length+(i-rs.length)=i:=by omega
      rw[e];obtain⟨hu1,hu2⟩:=Tr.1 hu
      have:us.getD (i*sz+j) undef=u:=by rw[Ti,hu];rfl
      rw[this];refine .sc u (hone u ?_);rw[←hu2];exact V5 hu1
   exact h junk hjl (by rw[RL,hjn];omega) E ρ a w (hr.step hst)
theorem Xl(k j sz:Nat){cs:List AV}(hk:hp[k]?=some (.cells cs))(hj:cs[j]?=some (.d (.sc (.slice none 0 0)))) :
  ax { np:=np,nt:=nt,env:=env,hp:=hp } { np:=np,nt:=nt,env:=env,hp:=hp.set k (.cells (cs.set j (.osl hp.length sz 0 0)))++[.rows sz []] }:=by
 intro E ρ a w h;have hl:=h.heap.len;simp only at hl;have hkl:k<hp.length:=(RM.1 hk).1;have hst:=Xo h.heap sz;have hr:=h.step hst;have hkp:∃ p,ρ[k]?=some p:=⟨ρ[k]'(by omega),RH (by omega)⟩;obtain⟨p,hkp⟩:=hkp;cases p with
 |none=>rcases h.heap.nil k _ hk hkp with e|⟨_,e⟩<;>cases e
 | some bm=>
   obtain⟨b,m⟩:=bm
   have hst2:=Xm (x':=.cells (cs.set j (.osl hp.length sz 0 0))) hr.heap (get_append_old hk) (by simp) (by simp) (get_append_old hkp) (by simp) fun us ty fz hw hm ⟨h1,h2,h3⟩=>⟨h1,by simp[h2],fun j' c u hc hu=>by
    rcases am hc with⟨e,e',_⟩|⟨_,hc⟩
    ·subst e;subst e'
     have:=h3 _ _ _ hj hu;cases this with|d _ _ hd=>
     obtain⟨A,rfl⟩:=jd hd;exact .oslnil _ _ A (by rw[←hl];simp)
    ·exact h3 _ _ _ hc hu⟩
   rw[VB _ _ hkl] at hst2
   have:=hr.step hst2;exact⟨_,this⟩
theorem Xj{k sz n:Nat}{rs:List (List DV)}{R:AV→List ABlk→Prop}(hk:hp[k]?=some (.full sz rs))(hR:af np (hp.set k .dead++[.rows sz (rs.take n)]) (.osl hp.length sz 0 n) R):af np hp (.osl k sz 0 n) R:=by
 intro E ρ w u hnp hH hpre hv;cases hv with
 |oslnil _ _ A h=>exact absurd h (hH.blks.2 k _ _ hk)
 | osl _ _ _ _ b m cap hkk hm hn=>
   have hst1:HStep E ρ hp w ρ (hp.set k (.rows sz (rs.take n))) w:=Xm hH hk (by simp) (by simp) hkk (by simp) fun us ty fz hw hm' ⟨h1,h2,h3,h4⟩=>by
    refine⟨h1,fun r hr=>h2 r (St hr),?_,fun i r hi j c u hj hu=>?_⟩
    ·rw[←h3];exact Sc _ (by simp;omega)
    ·rw[Tc] at hi
     split at hi
     ·exact h4 i r hi j c u hj hu
     ·cases hi
   have hgk:(hp.set k (.rows sz (rs.take n)))[k]?=some (.rows sz (rs.take n)):=by have:=(RM.1 hk).1;simp[this]
   have hst2:=HStep.move hst1.heap hgk (by simp) hkk;rw[TT] at hst2;refine hR E (ρ++[some (b,m)]) w _ hnp hst2.heap (fun k p hk=>get_append_old (hpre k p hk)) ?_;have hl:=hH.len;exact .osl _ _ _ _ b m cap (by rw[←hl];simp) hm hn
theorem Xi(m:List Nat){v v':AV}{hp':List ABlk}{R:AV→List ABlk→Prop}(hl:hp'.length=m.length)(hm:∀ i,i∈m→i<hp.length)(hinj:m.Nodup)(hpre:∀ k,k<np→m[k]?=some k)
  (he:v=renV (mAt m hp.length) v'∧inV m.length v') (hh:mT (mAt m hp.length) m.length hp 0 hp') (hR:af np hp' v' R):af np hp v R:=
 Xc (ax.frame m hl hm hinj hpre ⟨⟨by simpa[cy] using he.1,he.2⟩,Yj⟩ hh) hR
theorem iE{b o:Nat}{us:Array Value}{ty:TypeId}{fz:Nat×Nat}(h:w.heap[b]?=some (.cells us ty fz)):w.frozen? ⟨b,o,none⟩=decide (fz.1≤o∧o<fz.2):=by simp[World.frozen?,h]
theorem ext_overlaps {g : FuncId} {fn : Func} {tS tR e : TypeId} (hf : P.funcs[g]? = some fn) (hn : (fn.name == "runtime.NumGoroutine") = false) (hb : fn.body.isNone = true) (hx : Extern.findNext fn = none)
  (he:Extern.find fn=some (Extern.SlicesOverlaps.overlaps #[tS,tS] #[tR])) (hT:ap P T) (ht:(T tS).kind=.slice e) (hko:(T e).kind≠.other) {k k' sz off off' n n':Nat} {x x':ABlk} {rs rs':List (List DV)}
  {f f':List (List DV)→ABlk} (hk:hp[k]?=some x) (hr:Af x sz rs f) (hk':hp[k']?=some x') (hr':Af x' sz rs' f') (hne:k≠k') (h1:0<n) (h2:0<n') (hpos:0<sz) :
  wO P hp g [.osl k sz off n,.osl k' sz off' n'] (B false):=by
 intro E ρ w us hH hus;refine⟨.bool false,.d _ _ (.bool _),fun w' hbl=>?_⟩;have hxd:(x≠.dead∧x.isObj=false)∧∀ l,x≠.bytes l:=by rcases hr with⟨rfl,_⟩|⟨rfl,_⟩<;>simp
 have hxd':x'≠.dead∧x'.isObj=false:=by rcases hr' with⟨rfl,_⟩|⟨rfl,_⟩<;>simp
 match us,hus with
 | [u, u'],hus=>
   have hu:=hus.2 0 _ u rfl rfl;have hu':=hus.2 1 _ u' rfl rfl;cases hu with
   |oslnil _ _ A _=>omega
   | osl _ _ _ _ b m cap hkk hm hnc=>
     cases hu' with
     |oslnil _ _ A _=>omega
     | osl _ _ _ _ b' m' cap' hkk' hm' hnc'=>
       obtain⟨_,cs,ty,fz,q2,q3,q4,_⟩:=hH.blk k x b m hk hkk hxd.1;obtain⟨_,cs',ty',fz',q2',q3',q4',_⟩:=hH.blk k' x' b' m' hk' hkk' hxd';have hbb:b≠b':=fun e=>hne (hH.inj k k' x x' b m m' hk hk' hxd.1.1 hxd'.1 hkk (e▸hkk'))
       have e1:w'.heap[b]?=some (.cells cs ty fz):=(hbl.block b (a8 q2)).trans q2;have e2:w'.heap[b']?=some (.cells cs' ty' fz'):=(hbl.block b' (a8 q2')).trans q2';have hmm:off*sz<cs.size:=by rw[q3,←hm];exact Nat.mul_lt_mul_of_pos_right (by omega) hpos
       have hmm':cs'.size≠0:=by rw[q3',←hm'];exact Nat.ne_of_gt (Nat.mul_pos (by omega) hpos)
       have hpl:¬ (fz.1≤cs.size∧cs.size<fz.2):=by
        rcases q4.2 with⟨l,hl⟩|h
        ·exact absurd hl (hxd.2 l)
        ·exact h
       rw[VM hf hn hb hx he]
       have:=Lib.run_overlaps_apart (P:=P) w' tS tR e (aC hT ht) (T e).size (fun w=>aO hT hko w) ⟨b,off*sz,none⟩ ⟨b',off'*sz,none⟩ n cap n' cap' hbb ty ty' cs.size cs'.size
        (by simp[World.shape?,e1]) (by simp[World.shape?,e2]) hmm' (by rw[iE e1];simpa using q4.1 _ hmm) (by rw[iE e1];simpa using hpl)
       rw[this];rfl
end
theorem ab.re{P:Program}{hp:List ABlk}{g:FuncId}{xs:List AV}{x y:AV}(c:ab P hp g xs (ret x))(e:x=y):ab P hp g xs (ret y):=e▸c
theorem XH{P:Program}{T:TypeId→TI}{s:ASt}{Q:Exit→ASt→Prop}{id:Nat}{l:List Oper}(hm:P.follows .mixedOrders=true)(hT:ap P T)(hB:(MN l.toArray&&Region.lexB .any l.toArray)=true)(h:∀ K:ASt→Prop,(∀ s',Q .normal s'→K s')→o7 P T l.toArray K l s) :
  AWP P (.region id l.toArray true) s Q:=by
 rw[RU] at hB;exact AWP.quiet hm hT hB.2 h
theorem acallH_own{P:Program}{np:Nat}{hp:List ABlk}{g:FuncId}{xs:List AV}{K:AV→List ABlk→Prop}{t:Tok K}{chp bl:List ABlk}{cargs:List AV}{x:AV}(c:ab P chp g cargs (dr x bl))
  (exs:renL (mAt (dB xs) hp.length) cargs=xs) (h:chp.length=(dB xs).length∧(dB xs).Nodup∧(∀ i,i∈dB xs→i<hp.length)∧inL (dB xs).length cargs∧mT (mAt (dB xs) hp.length) (dB xs).length hp 0 chp)
  (hK:K (renV (bN (dB xs) hp.length) x) (bZ (bN (dB xs) hp.length) hp (dB xs) bl++d9 (bN (dB xs) hp.length) (bl.drop (dB xs).length))):cQ P np hp g xs K t:=by
 have:=k7 (hp:=hp) (K:=K) (dB xs) c h.1 h.2.1 h.2.2.1 h.2.2.2.1 h.2.2.2.2 (fun v hp' hR=>by
  obtain⟨rfl,rfl⟩:=hR
  exact hK)
 rw[exs] at this;exact kU this
theorem acallHK_ext{P:Program}{np:Nat}{hp:List ABlk}{g:FuncId}{xs:List AV}{K:AV→List ABlk→Prop}{t:Tok K}{v:AV}(h:wO P hp g xs v)(hK:K v hp):cQ P np hp g xs K t:=.inr ⟨v,h,hK⟩
theorem af.done{np:Nat}{hp bl:List ABlk}{v x:AV}(h1:v=x)(h2:hp=bl):af np hp v (dr x bl):=by subst h1;subst h2;exact af.same ⟨rfl,rfl⟩
theorem NZ(i k sz b:Nat)[Decidable (i=0)]:(if i=0 then AV.osl k sz 0 b else AV.osl k sz i (b-i))=.osl k sz i (b-i):=by
 split
 ·rename_i h;subst h;simp
 ·rfl
section
variable {P:Program} {T:TypeId→TI} {np nt:Nat} {env:List (Nat×AV)} {hp:List ABlk} {c x y:Code} {Q:Exit→ASt→Prop} {s:ASt}
theorem XI(t:Nat){k sz off n:Nat}{z:ABlk}(ht:cy env t=.osl k sz off n)(hk:hp[k]?=some z)(hd:z≠.dead) :
  ax { np:=np,nt:=nt,env:=env,hp:=hp } { np:=np,nt:=nt,env:=(t,.osl hp.length sz off n)::env,hp:=hp.set k .dead++[z] }:=by
 intro E ρ a w h;have hl:=h.heap.len;simp only at hl;have hkl:k<ρ.length:=by rw[hl];exact(RM.1 hk).1
 have hst:=HStep.move h.heap hk hd (RH hkl);have hr:=h.step hst;refine⟨_,hr.np,hr.nodef,hr.nt,fun t'=>?_,hr.heap,hr.pre⟩;simp only[cy]
 by_cases e:t=t'
 ·subst e
  simp only[S9]
  have:=h.env t;simp only[ht] at this;generalize hu:a.tmps.getD t undef=u at this;cases this with
  | osl _ _ _ _ b m cap hkk hm hn=>
    refine .osl _ _ _ _ b m cap ?_ hm hn;rw[RH hkl] at hkk;rw[RT (by omega),hl,Ty];simpa using hkk
  | oslnil _ _ A hkk=>
    refine .oslnil _ _ A ?_;rw[RH hkl] at hkk;rw[RT (by omega),hl,Ty];simpa using hkk
 ·simp only[e,Tj]
  exact hr.env t'
theorem AWP.meet(st:ASt)(h1:AWP P x s (ie (fun s'=>ax s' st) Q))(h2:AWP P y st Q):AWP P x s (ie (fun s'=>AWP P y s' Q) Q):=
 h1.mono fun e s' hq=>by
  cases e with
  |normal=>exact Xa hq h2
  |_=>exact hq
theorem Xb(ks:List Nat)(upd:List (Nat×AV))(hp':List ABlk)(h1:AWP P x { np:=np,nt:=nt,env:=env,hp:=hp } (ie (fun s'=>ax s' { np:=np,nt:=nt,env:=upd++jS env ks,hp:=hp' }) Q))
  (h2:AWP P y { np:=np,nt:=nt,env:=upd++jS env ks,hp:=hp' } Q):AWP P x { np:=np,nt:=nt,env:=env,hp:=hp } (ie (fun s'=>AWP P y s' Q) Q):=AWP.meet _ h1 h2
end
attribute [go_sem] ka.eq_def kQ.eq_def ky.eq_def ip.eq_def NZ Option.isSome_some Option.isSome_none uq lE lj.eq_def List.filter_cons List.filter_nil IJ.eq_def o9.eq_def sU.eq_def srcApp.eq_def DH.eq_def nO.eq_def io.eq_def oY.eq_def iO.eq_def xZ.eq_def rN.eq_def lC.eq_def mH.eq_def EV.eq_def Np.eq_def k8.eq_def
theorem hcs:(∀(p:Prop) [Decidable p],(decide p=true)=p)∧(∀(p:Prop) [Decidable p],(decide p=false)↔¬ p)∧(∀ a b:Bool,((a&&b)=true)=(a=true∧b=true))∧(∀ a b:Bool,((a||b)=true)=(a=true∨b=true))∧
  (∀ a b:Bool,((a||b)=false)↔(a=false∧b=false))∧(∀ a b:Bool,((a&&b)=false)↔(a=false∨b=false))∧(∀ b:Bool,((!b)=true)=(b=false))∧(∀ b:Bool,((!b)=false)=(b=true))∧((true=false)=False)∧((false=true)=False)∧
  (∀ b:Bool,(¬ b=true)=(b=false))∧(∀ b:Bool,(¬ b=false)=(b=true))∧(∀ a b:Int,¬ a<b↔b≤a)∧(∀ a b:Int,¬ a≤b↔b<a)∧(∀ a b:Nat,¬ a<b↔b≤a)∧(∀ a b:Nat,¬ a≤b↔b<a)∧
  (∀ a b:Nat,(a:Int)<(b:Int)↔a<b)∧(∀ a b:Nat,(a:Int)≤(b:Int)↔a≤b)∧(∀ a:Nat,(a:Int)=0↔a=0)∧((¬ True)=False)∧((¬ False)=True)∧((!true)=false)∧((!false)=true):=
 ⟨fun _ _=>RN,fun _ _=>RR,RU,SQ,fun _ _=>U2,fun _ _=>UU,SY,Bool.not_eq_false',VV,Tb,
  Tx,Bool.not_eq_false,fun _ _=>Int.not_lt,fun _ _=>Int.not_le,fun _ _=>Nat.not_lt,fun _ _=>Nat.not_le,fun _ _=>Int.ofNat_lt,fun _ _=>Int.ofNat_le,fun _=>WQ,Tp,R5,Bool.not_true,Vm⟩
theorem inj:(∀ a b,(AV.d a=AV.d b)=(a=b))∧(∀ k n k' n',(DV.int k n=DV.int k' n')=(k=k'∧n=n'))∧(∀ a b,(DV.bool a=DV.bool b)=(a=b))∧(∀ a b,(DV.str a=DV.str b)=(a=b))∧(∀ k n k' n',(DV.sl k n=DV.sl k' n')=(k=k'∧n=n'))∧
  (∀ a b,(AV.tup a=AV.tup b)=(a=b))∧(∀ a b,(AV.agg a=AV.agg b)=(a=b))∧(∀ a b c d a' b' c' d',(AV.osl a b c d=AV.osl a' b' c' d')=(a=a'∧b=b'∧c=c'∧d=d'))∧(∀ a b a' b',(AV.ptr a b=AV.ptr a' b')=(a=a'∧b=b'))∧
  (∀ a b c d a' b' c' d',(AV.rp a b c d=AV.rp a' b' c' d')=(a=a'∧b=b'∧c=c'∧d=d')):=by simp
open Go
theorem cO(m:List Nat){P:Program}{np:Nat}{hp:List ABlk}{g:FuncId}{xs:List AV}{K:AV→List ABlk→Prop}{t:Tok K}{chp bl:List ABlk}{cargs:List AV}{x:AV}(c:ab P chp g cargs (dr x bl))
  (exs:renL (mAt m hp.length) cargs=xs) (h:chp.length=m.length∧m.Nodup∧(∀ i,i∈m→i<hp.length)∧inL m.length cargs∧mT (mAt m hp.length) m.length hp 0 chp)
  (hK:K (renV (bN m hp.length) x) (bZ (bN m hp.length) hp m bl++d9 (bN m hp.length) (bl.drop m.length))):cQ P np hp g xs K t:=by
 have:=k7 (hp:=hp) (K:=K) m c h.1 h.2.1 h.2.2.1 h.2.2.2.1 h.2.2.2.2 (fun v hp' hR=>by
  obtain⟨rfl,rfl⟩:=hR
  exact hK)
 rw[exs] at this;exact kU this
theorem ax.tail(k n:Nat){np nt:Nat}{env:List (Nat×AV)}{hp:List ABlk}{sz:Nat}{rs:List (List DV)}(hk:hp[k]?=some (.rows sz rs)) :
  ax { np:=np,nt:=nt,env:=env,hp:=hp } { np:=np,nt:=nt,env:=env,hp:=hp.set k (.rows sz (rs.take n)) }:=by
 intro E ρ a w h;have hl:=h.heap.len;simp only at hl;have hkl:k<hp.length:=(RM.1 hk).1;obtain⟨p,hkp⟩:∃ p,ρ[k]?=some p:=⟨ρ[k]'(by omega),RH (by omega)⟩;cases p with
 | none=>
   rcases h.heap.nil k _ hk hkp with e|⟨sz',e⟩
   ·cases e
   ·injection e with e1 e2
    subst e2
    have e3:hp.set k (.rows sz (List.take n []))=hp:=by
     apply SR;intro j;rw[To];split
     ·rename_i e;subst e;rw[hk];first|rfl|simp|(rw[RJ hkl];simp)
     ·rfl
    rw[e3];exact⟨ρ,h⟩
 | some bm=>
   obtain⟨b,m⟩:=bm
   have hst:=Xm (x':=.rows sz (rs.take n)) h.heap hk (by simp) (by simp) hkp (by simp) fun us ty fz hw hm ⟨h1,h2,h3,h4⟩=>by
    refine⟨h1,fun r hr=>h2 r (St hr),R8 (Sc _ (by rw[RV];omega)) h3,fun i r hi j c u hj hu=>?_⟩;rw[Tc] at hi;split at hi
    ·exact h4 i r hi j c u hj hu
    ·cases hi
   exact⟨_,h.step hst⟩
theorem vt{E:Ent}{ρ:List (Option (Nat×Nat))}{hp:List ABlk}{w:World}(h:X5 E ρ hp w)(hpre:∀(k:Nat) (p:Option (Nat×Nat)),E.ρ0[k]?=some p→ρ[k]?=some p){k:Nat}
  (h0:∀ j,j<E.ρ0.length→j≠k∧∃ z,hp[j]?=some z∧z≠.dead):∀(b m sz:Nat) (rs:List (List DV)),hp[k]?=some (.rows sz rs)→ρ[k]?=some (some (b,m))→okB E ρ (hp.set k .dead) w b:=by
 intro b m sz rs hx hb;obtain⟨q1,us,ty,fz,q2,_⟩:=h.blk k _ b m hx hb (by simp)
 have hnl:¬ fH ρ (hp.set k .dead) b:=by
  intro⟨j,x,m',hx',hd,hj⟩;rcases am hx' with⟨_,e,_⟩|⟨hne,h2⟩
  ·exact hd e
  ·exact hne (h.inj j k x _ b m' m h2 hx hd (by simp) hj hb)
 rcases q1 with q1|q1
 ·obtain⟨k',m',hk'⟩:=E.hL b q1
  have hlt:k'<E.ρ0.length:=(RM.1 hk').1;obtain⟨hne,z,hz,hzd⟩:=h0 k' hlt;exact absurd (h.inj k' k z _ b m' m hz hx hzd (by simp) (hpre _ _ hk') hb) hne
 ·exact⟨.inr q1,a8 q2,hnl⟩
theorem Xs(t k:Nat){np nt:Nat}{env:List (Nat×AV)}{hp:List ABlk}{sz off n:Nat}{rs:List (List DV)}(h0:∀ j,j<np→j≠k∧∃ z,hp[j]?=some z∧z≠.dead)(ht:cy env t=.osl k sz off n)(hk:hp[k]?=some (.rows sz rs))(hn:off+n≤rs.length) :
  ax { np:=np,nt:=nt,env:=env,hp:=hp } { np:=np,nt:=nt,env:=(t,.d (.sl sz ((rs.drop off).take n)))::env,hp:=hp.set k .dead }:=by
 intro E ρ a w h;have hst:HStep E ρ hp w ρ (hp.set k .dead) w:=Xp h.heap k;have hr:=h.step hst;have hv:=h.env t;simp only[ht] at hv;have hf:cc hp (.osl k sz off n):=by rw[rn,hk];exact⟨rfl,hn⟩
 have he:bt hp (.osl k sz off n)=.d (.sl sz ((rs.drop off).take n)):=by rw[vd,hk]
 have hnp:E.ρ0.length=np:=h.np
 have hz:=nR h.heap.blks (fun b hb=>(hst.ok b hb).1) hv (fun j hj b m sz' rs' hx hb=>by
  have hjk:j=k:=by simpa[eB] using hj
  subst hjk
  exact vt h.heap h.pre (fun i hi=>h0 i (by omega)) b m sz' rs' hx hb) hf (by rw[he];trivial)
 rw[he] at hz;have hz:=jc (ρ':=ρ) (fun b hb=>⟨hb,rfl⟩) hz (show cp (.d (.sl sz ((rs.drop off).take n))) from Yj);refine⟨ρ,hr.np,hr.nodef,hr.nt,fun t'=>?_,hr.heap,hr.pre⟩;simp only[cy]
 by_cases e:t=t'
 ·subst e;simp only[S9];exact hz
 ·simp only[e,Tj];exact hr.env t'
theorem Xr(k0 j:Nat){np nt:Nat}{env:List (Nat×AV)}{hp:List ABlk}{cs:List AV}{k sz off n:Nat}{z:ABlk}(h0:hp[k0]?=some (.cells cs))(hj:cs[j]?=some (.osl k sz off n))(hk:hp[k]?=some z)(hd:z≠.dead)(hne:k≠k0) :
  ax { np:=np,nt:=nt,env:=env,hp:=hp } { np:=np,nt:=nt,env:=env,hp:=(hp.set k .dead).set k0 (.cells (cs.set j (.osl hp.length sz off n)))++[z] }:=by
 intro E ρ a w h;have hl:=h.heap.len;simp only at hl;have hkl:k<hp.length:=(RM.1 hk).1;have hkl0:k0<hp.length:=(RM.1 h0).1;obtain⟨p,hp'⟩:∃ p,ρ[k]?=some p:=⟨ρ[k]'(by omega),RH (by omega)⟩;obtain⟨p0,hp0⟩:∃ p,ρ[k0]?=some p:=⟨ρ[k0]'(by omega),RH (by omega)⟩;have hst:=HStep.move h.heap hk hd hp';have hr:=h.step hst;have hg0:(hp.set k .dead++[z])[k0]?=some (.cells cs):=by rw[R2 (by simpa using hkl0),Uy hne];exact h0
 cases p0 with
 |none=>rcases h.heap.nil k0 _ h0 hp0 with e|⟨_,e⟩<;>cases e
 | some bm=>
   obtain⟨b,m⟩:=bm
   have hst2:=Xm (x':=.cells (cs.set j (.osl hp.length sz off n))) hr.heap hg0 (by simp) (by simp) (get_append_old hp0) (by simp) fun us ty fz hw hm ⟨h1,h2,h3⟩=>⟨h1,by simp[h2],fun j' c u hc hu=>by
    rcases am hc with⟨e,e',_⟩|⟨_,hc⟩
    ·subst e;subst e'
     have:=h3 _ _ _ hj hu;cases this with
     | osl _ _ _ _ b m cap hkk hm hn=>
       refine .osl _ _ _ _ b m cap ?_ hm hn;rw[get_append_old hp'] at hkk;rw[RT (by omega),hl,Ty];simpa using hkk
     | oslnil _ _ A hkk=>
       refine .oslnil _ _ A ?_;rw[get_append_old hp'] at hkk;rw[RT (by omega),hl,Ty];simpa using hkk
    ·exact h3 _ _ _ hc hu⟩
   rw[VB _ _ (by simpa using hkl0)] at hst2;exact⟨_,hr.step hst2⟩
set_option maxRecDepth 100000
theorem XJ(t j sz:Nat){np nt:Nat}{env:List (Nat×AV)}{hp:List ABlk}{cs:List AV}(ht:cy env t=.agg cs)(hj:cs[j]?=some (.d (.sc (.slice none 0 0)))) :
  ax { np:=np,nt:=nt,env:=env,hp:=hp } { np:=np,nt:=nt,env:=(t,.agg (cs.set j (.osl hp.length sz 0 0)))::env,hp:=hp++[.rows sz []] }:=by
 intro E ρ a w h;have hst:=Xo h.heap sz;have hr:=h.step hst;have hl:=h.heap.len;simp only at hl;refine⟨_,hr.np,hr.nodef,hr.nt,fun t'=>?_,hr.heap,hr.pre⟩;simp only[cy]
 by_cases e:t=t'
 ·subst e
  simp only[S9]
  have:=hr.env t;simp only[ht] at this;generalize a.tmps.getD t undef=u at this;cases this with|agg _ us hlen h1 hr2=>
  refine .agg _ us (by simpa using hlen) h1 fun j' c u hc hu=>?_
  rcases am hc with⟨e,e',_⟩|⟨_,hc⟩
  ·subst e;subst e'
   have:=hr2 _ _ _ hj hu;cases this with|d _ _ hd=>
   obtain⟨A,rfl⟩:=jd hd;exact .oslnil _ _ A (by rw[←hl];simp)
  ·exact hr2 _ _ _ hc hu
 ·simp only[e,Tj]
  exact hr.env t'
theorem Bx(f:Nat→Nat):∀(cs:List AV) (j:Nat) (x:AV),renL f (cs.set j x)=(renL f cs).set j (renV f x)
 |[],_,_=>rfl
 |y::cs,0,x=>rfl
 | y::cs,j+1,x=>by
   show renV f y::renL f (cs.set j x)=renV f y::(renL f cs).set j (renV f x);rw[Bx f cs j x]
theorem E1(n:Nat):∀(cs:List AV) (j:Nat) (x:AV),inL n cs→inV n x→inL n (cs.set j x)
 |[],_,_,h,_=>h
 |y::cs,0,x,h,hx=>⟨hx,h.2⟩
 |y::cs,j+1,x,h,hx=>⟨h.1,E1 n cs j x h.2 hx⟩
mutual
theorem uI{m n:Nat}(hmn:m≤n):∀(x:AV),inV m x→inV n x
 |.d _,_=>trivial
 |.agg cs,h=>qJ hmn cs h
 |.tup cs,h=>qJ hmn cs h
 |.dp _ _,_=>trivial
 |.any,_=>trivial
 |.ptr k _,h=>SL h hmn
 |.rp k _ _ _,h=>SL h hmn
 |.osl k _ _ _,h=>SL h hmn
 |.mp k,h=>SL h hmn
 |.clo _ a b,h=>⟨qJ hmn a h.1,qJ hmn b h.2⟩
 |.gd _ v,h=>uI hmn v h
theorem qJ{m n:Nat}(hmn:m≤n):∀(l:List AV),inL m l→inL n l
 |[],_=>trivial
 |x::l,h=>⟨uI hmn x h.1,qJ hmn l h.2⟩
end
theorem rE{E:Ent}{ρ:List (Option (Nat×Nat))}{hp:List ABlk}{w:World}(h:X5 E ρ hp w)(hpre:∀(k:Nat) (p:Option (Nat×Nat)),E.ρ0[k]?=some p→ρ[k]?=some p){ks:List Nat}
  (h0:∀ j,j<E.ρ0.length→j∉ks∧∃ z,hp[j]?=some z∧z≠.dead):∀ k,k∈ks→∀(b m sz:Nat) (rs:List (List DV)),hp[k]?=some (.rows sz rs)→ρ[k]?=some (some (b,m))→okB E ρ (killIds ks hp) w b:=by
 intro k hk b m sz rs hx hb;obtain⟨q1,us,ty,fz,q2,_⟩:=h.blk k _ b m hx hb (by simp)
 have hnl:¬ fH ρ (killIds ks hp) b:=by
  intro⟨j,x,m',hx',hd,hj⟩;obtain⟨h1,h2⟩:=na hx' hd
  have:=h.inj j k x _ b m' m h2 hx hd (by simp) hj hb;subst this;exact h1 hk
 rcases q1 with q1|q1
 ·obtain⟨k',m',hk'⟩:=E.hL b q1
  have hlt:k'<E.ρ0.length:=(RM.1 hk').1;obtain⟨hne,z,hz,hzd⟩:=h0 k' hlt
  have:=h.inj k' k z _ b m' m hz hx hzd (by simp) (hpre _ _ hk') hb;subst this;exact absurd hk hne
 ·exact⟨.inr q1,a8 q2,hnl⟩
theorem XK(t:Nat){np nt:Nat}{env:List (Nat×AV)}{hp:List ABlk}{v:AV}(h0:∀ j,j<np→j∉eB v∧∃ z,hp[j]?=some z∧z≠.dead)(ht:cy env t=v)(hf:cc hp v)(hn:cp (bt hp v)) :
  ax { np:=np,nt:=nt,env:=env,hp:=hp } { np:=np,nt:=nt,env:=(t,bt hp v)::env,hp:=killIds (eB v) hp }:=by
 intro E ρ a w h;have hst:=HStep.killIds h.heap (eB v);have hr:=h.step hst;have hv:=h.env t;simp only[ht] at hv;have hnp:E.ρ0.length=np:=h.np;have hz:=nR h.heap.blks (fun b hb=>(hst.ok b hb).1) hv (rE h.heap h.pre fun j hj=>h0 j (by omega)) hf hn;have hz:=jc (ρ':=ρ) (fun b hb=>⟨hb,rfl⟩) hz hn;refine⟨ρ,hr.np,hr.nodef,hr.nt,fun t'=>?_,hr.heap,hr.pre⟩;simp only[cy]
 by_cases e:t=t'
 ·subst e;simp only[S9];exact hz
 ·simp only[e,Tj];exact hr.env t'
theorem XL(k0 j:Nat){np nt:Nat}{env:List (Nat×AV)}{hp:List ABlk}{cs:List AV}{k sz off n:Nat}{rs:List (List DV)}(hg:hp[k0]?=some (.cells cs))(hj:cs[j]?=some (.osl k sz off n))(hk:hp[k]?=some (.rows sz rs))(hn:off+n≤rs.length)(hne:k≠k0)
  (h0:∀ j,j<np→j≠k∧∃ z,hp[j]?=some z∧z≠.dead) :
  ax { np:=np,nt:=nt,env:=env,hp:=hp } { np:=np,nt:=nt,env:=env,hp:=(hp.set k .dead).set k0 (.cells (cs.set j (.d (.sl sz ((rs.drop off).take n))))) }:=by
 intro E ρ a w h;have hl:=h.heap.len;simp only at hl;have hkl0:k0<hp.length:=(RM.1 hg).1;obtain⟨p0,hp0⟩:∃ p,ρ[k0]?=some p:=⟨ρ[k0]'(by omega),RH (by omega)⟩;have hst:HStep E ρ hp w ρ (hp.set k .dead) w:=Xp h.heap k;have hr:=h.step hst;have hg0:(hp.set k .dead)[k0]?=some (.cells cs):=by rw[Uy hne];exact hg
 have hf:cc hp (.osl k sz off n):=by rw[rn,hk];exact⟨rfl,hn⟩
 have he:bt hp (.osl k sz off n)=.d (.sl sz ((rs.drop off).take n)):=by rw[vd,hk]
 have hnp:E.ρ0.length=np:=h.np;cases p0 with
 |none=>rcases h.heap.nil k0 _ hg hp0 with e|⟨_,e⟩<;>cases e
 | some bm=>
   obtain⟨b,m⟩:=bm
   have hst2:=Xm (x':=.cells (cs.set j (.d (.sl sz ((rs.drop off).take n))))) hr.heap hg0 (by simp) (by simp) hp0 (by simp) fun us ty fz hw hm ⟨h1,h2,h3⟩=>⟨h1,by simp[h2],fun j' c u hc hu=>by
    rcases am hc with⟨e,e',_⟩|⟨_,hc⟩
    ·subst e;subst e'
     have hx:=h3 _ _ _ hj hu
     have hv:RepV ρ (okB E ρ hp w) w (.osl k sz off n) u:=by
      cases hx with
      |osl _ _ _ _ b m cap hkk hm hn=>exact .osl _ _ _ _ b m cap hkk hm hn
      |oslnil _ _ A hkk=>exact .oslnil _ _ A hkk
     have hz:=nR h.heap.blks (fun b hb=>(hst.ok b hb).1) hv (fun j hj b m sz' rs' hx2 hb2=>by
      have hjk:j=k:=by simpa[eB] using hj
      subst hjk
      exact vt h.heap h.pre (fun i hi=>h0 i (by omega)) b m sz' rs' hx2 hb2) hf (by rw[he];trivial)
     rw[he] at hz;exact jc (fun b hb=>⟨hb,rfl⟩) hz (show cp (.d (.sl sz ((rs.drop off).take n))) from Yj)
    ·exact h3 _ _ _ hc hu⟩
   exact⟨_,hr.step hst2⟩
theorem XC(k0:Nat){np nt:Nat}{env:List (Nat×AV)}{hp:List ABlk}{cs cs':List AV}(hg:hp[k0]?=some (.cells cs))(hc:gD cs cs') :
  ax { np:=np,nt:=nt,env:=env,hp:=hp } { np:=np,nt:=nt,env:=env,hp:=hp.set k0 (.cells cs') }:=by
 intro E ρ a w h;have hl:=h.heap.len;simp only at hl;have hkl0:k0<hp.length:=(RM.1 hg).1;obtain⟨hlen,hget⟩:=mY hc;obtain⟨p0,hp0⟩:∃ p,ρ[k0]?=some p:=⟨ρ[k0]'(by omega),RH (by omega)⟩;cases p0 with
 |none=>rcases h.heap.nil k0 _ hg hp0 with e|⟨_,e⟩<;>cases e
 | some bm=>
   obtain⟨b,m⟩:=bm
   have hst:=Xm (x':=.cells cs') h.heap hg (by simp) (by simp) hp0 (by simp) fun us ty fz hw hm ⟨h1,h2,h3⟩=>⟨h1,by rw[h2];exact hlen,fun j' c u hc' hu=>by
    have hjl:j'<cs.length:=by rw[hlen];exact(RM.1 hc').1
    have hx:=RH hjl
    exact sK (h3 _ _ _ hx hu) _ (hget _ _ _ hx hc')⟩
   exact⟨_,h.step hst⟩
theorem yJ{P:Program}{hp:List ABlk}{g:FuncId}{xs:List AV}{K:AV→List ABlk→Prop}{t:Tok K}(h:qO P hp g xs fun v hp'=>cc hp' v∧cp (bt hp' v)∧K (bt hp' v) (killIds (eB v) hp')):cQ P 0 hp g xs K t:=by refine .inl ⟨h.1,fun E ρ w us h0 hH hus=>(h.2 E ρ w us hH hus).mono fun e w' ⟨u,v,hp',ρ',q1,⟨q2,q3,q4⟩,q5,q6⟩=>?_⟩;have hst:=HStep.killIds q5.heap (eB v);have hz:=nR q5.heap.blks (fun b hb=>(hst.ok b hb).1) q6 (rE q5.heap (fun k p hk=>by rw[Vg.1 h0] at hk;cases hk) fun j hj=>by omega) q2 q3;exact⟨u,_,_,ρ',q1,q4,q5.trans hst,jc (ρ':=ρ') (fun b hb=>⟨hb,rfl⟩) hz q3⟩
theorem DX(m:List Nat){P:Program}{hp:List ABlk}{g:FuncId}{xs:List AV}{K:AV→List ABlk→Prop}{t:Tok K}{chp bl:List ABlk}{cargs:List AV}{x:AV}(c:ab P chp g cargs (dr x bl))
  (exs:renL (mAt m hp.length) cargs=xs) (h:chp.length=m.length∧m.Nodup∧(∀ i,i∈m→i<hp.length)∧inL m.length cargs∧mT (mAt m hp.length) m.length hp 0 chp)
  (hf:cc (bZ (bN m hp.length) hp m bl++d9 (bN m hp.length) (bl.drop m.length)) (renV (bN m hp.length) x)∧cp (bt (bZ (bN m hp.length) hp m bl++d9 (bN m hp.length) (bl.drop m.length)) (renV (bN m hp.length) x)))
  (hK:K (bt (bZ (bN m hp.length) hp m bl++d9 (bN m hp.length) (bl.drop m.length)) (renV (bN m hp.length) x)) (killIds (eB (renV (bN m hp.length) x)) (bZ (bN m hp.length) hp m bl++d9 (bN m hp.length) (bl.drop m.length)))):cQ P 0 hp g xs K t:=by
 have:=k7 (hp:=hp) (K:=fun v hp'=>cc hp' v∧cp (bt hp' v)∧K (bt hp' v) (killIds (eB v) hp')) m c h.1 h.2.1 h.2.2.1 h.2.2.2.1 h.2.2.2.2 (fun v hp' hR=>by
  obtain⟨rfl,rfl⟩:=hR
  exact⟨hf.1,hf.2,hK⟩)
 rw[exs] at this;exact yJ this
attribute [go_sem] killIds
end Go.Proofs.YtjcooccnfkfjhaaGreatDoor
