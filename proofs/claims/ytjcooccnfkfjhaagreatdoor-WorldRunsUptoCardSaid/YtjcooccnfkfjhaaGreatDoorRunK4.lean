/- What the law leans on. No condition. -/
import Derived.Laws.BitsAllLaws
import Derived.Test.YtjcooccnfkfjhaaGreatDoorRunK3
namespace Go.Proofs.YtjcooccnfkfjhaaGreatDoor
set_option maxHeartbeats 8000000
set_option linter.unusedVariables false
set_option linter.unusedSimpArgs false
open Go Go.RowKit
set_option maxRecDepth 100000
def rF(c:Nat):Nat:=(c/2) ^^^ (if c%2=1 then 3988292384 else 0)
def eZ:Nat→Nat→Nat
 |0,c=>c
 |k+1,c=>rF (eZ k c)
def xU(c:Nat)(b:UInt8):Nat:=eZ 8 (c ^^^ b.toNat)
def gB(s:List UInt8):Nat:=s.foldl xU 4294967295
def lY(s:List UInt8):Nat:=4294967295-gB s
theorem IV{c:Nat}(h:c<4294967296):rF c<4294967296:=by unfold rF;exact UA (n:=32) (by omega) (by split<;>decide)
theorem stepsN_lt{c:Nat}(h:c<4294967296):∀ k,eZ k c<4294967296
 |0=>h
 |k+1=>IV (stepsN_lt h k)
theorem Iw{c:Nat}(b:UInt8)(h:c<4294967296):xU c b<4294967296:=
 stepsN_lt (UA (n:=32) h (WJ b.toNat_lt (by decide))) 8
theorem wy(s:List UInt8)(k:Nat)(h:k<s.length):gB (s.take (k+1))=xU (gB (s.take k)) (s.getD k 0):=by
 unfold gB
 have:s.take (k+1)=s.take k++[s.getD k 0]:=aN s k h;rw[this,Tm];rfl
theorem EI(s:List UInt8):gB s<4294967296:=by
 unfold gB
 have:∀(l:List UInt8) (c:Nat),c<4294967296→l.foldl xU c<4294967296:=by
  intro l
  induction l with
  |nil=>intro c h;exact h
  |cons b l ih=>intro c h;exact ih _ (Iw b h)
 exact this s _ (by decide)
theorem and1(c:Nat)(h:c<4294967296):bits .and .u32 (c:Int) 1=((c%2:Nat):Int):=by have:=u32_and_nat c 1 h (by decide);rw[VK] at this;exact this
theorem Qf(c:Nat):(c:Int)/2=((c/2:Nat):Int):=by omega
theorem xorp(c:Nat)(h:c<4294967296):bits .xor .u32 (c:Int) 3988292384=((c ^^^ 3988292384:Nat):Int):=WM c _ h (by decide)
theorem EX(b:UInt8):b.toNat<4294967296:=WJ b.toNat_lt (by decide)
theorem Kx{c:Nat}(h:c%2=1):rF c=c/2 ^^^ 3988292384:=by unfold rF;rw[Rx h]
theorem Hb{c:Nat}(h:¬ c%2=1):rF c=c/2:=by unfold rF;rw[Rw h,Wf]
theorem EE:gB []=4294967295:=rfl
theorem C7(b:UInt8):IntKind.u32.wrap (b.toNat:Int)=(b.toNat:Int):=by have:=b.toNat_lt;rw[IntKind.wrap_u32'];omega
theorem Qu(c:Nat)(h:c<4294967296):bits .xor .u32 (if IntKind.u32.signed=true then -1 else IntKind.u32.max) (c:Int)=((4294967295-c:Nat):Int):=by
 have e:(if IntKind.u32.signed=true then(-1:Int) else IntKind.u32.max)=((4294967295:Nat):Int):=by decide
 rw[e,WM _ _ (by decide) h];congr 1
 have:4294967295-c=2^32-(c+1):=by omega
 apply Nat.eq_of_testBit_eq;intro i;rw[Nat.testBit_xor,this,Vv h,show 4294967295=2^32-1 from rfl,Nat.testBit_two_pow_sub_one]
 by_cases hi:i<32
 ·simp[hi]
 ·have:c.testBit i=false:=Nat.testBit_lt_two_pow (Sy h (UT (by decide) (by omega):2^32≤2^i))
  simp[hi,this]
theorem Pq(n:Nat):(((n:Nat):Int)=1)=(n=1):=by rw[eq_iff_iff];omega
theorem Oh(s:List UInt8)(h:okS s):ab Tryz.prog [] 204 [S s] (ret (I (lY s))):=by
 unfold okS at h;refine zJ Tryz.func204 Tryz.ntmps204 Tryz.results204 ?_;simp only[go_sem];refine zW qw zn X5 (z1 ?_);refine WW (ι:=Nat) (fun k=>k≤s.length) (fun k=>s.length-k) [0] (fun k=>[(3,.d (.int .u32 (gB (s.take k)))),(4,I k)]) 0 ?_ (by simp(disch:=omega) only[go_sem,aa,EE,U3]) ?_
 ·omega
 intro k hk;have hc0:=EI (s.take k);have hb:=EX (s.getD k 0);have hx:gB (s.take k) ^^^ (s.getD k 0).toNat<4294967296:=UA (n:=32) hc0 hb;simp only[go_sem]
 (refine zW qw zn (zx @WM @C7) (z2 ?_ ?_)<;>(repeat with_reducible intro hc))
 ·refine WW (ι:=Nat) (fun j=>j≤8) (fun j=>8-j) [0,4] (fun j=>[(3,.d (.int .u32 (eZ j (gB (s.take k) ^^^ (s.getD k 0).toNat)))),(18,I j)]) 0 ?_ (by simp(disch:=omega) only[go_sem,aa,eZ]) ?_
  ·omega
  intro j hj;have hs:=stepsN_lt hx j;have hs2:eZ j (gB (s.take k) ^^^ (s.getD k 0).toNat)/2<4294967296:=by omega
  simp only[go_sem]
  (refine zW qw zn (zx @and1 (zx @Qf (zx @xorp @Pq))) (z3 ?_ ?_ ?_)<;>(repeat with_reducible intro hc))
  ·refine⟨j+1,by omega,by omega,?_⟩
   (refine ay.same ?_;simp(disch:=omega) only[go_sem,aa,Si,eZ,Kx hc])
  ·refine⟨j+1,by omega,by omega,?_⟩
   (refine ay.same ?_;simp(disch:=omega) only[go_sem,aa,Si,eZ,Hb hc])
  ·have e0:j=8:=by omega
   subst e0;refine⟨k+1,by omega,by omega,?_⟩;exact zSm (zx @wy @xU.eq_1)
 ·have e0:k=s.length:=by omega
  subst e0;rw[RU] at *
  exact zEe (zx @Qu @lY.eq_1)
def cl(l:List Nat):List AV:=l.map fun n:Nat=>AV.d (.int .i64 (n:Int))
theorem ye(l:List Nat):(cl l).length=l.length:=by simp[cl]
theorem CX(l:List Nat)(k:Nat)(h:k<l.length):(cl l).getD k .any=.d (.int .i64 (l.getD k 0:Nat)):=by unfold cl;rw[Ru,RF,Ru,Rv h];rfl
theorem CH(l:List Nat)(k v:Nat):(cl l).set k (.d (.int .i64 (v:Int)))=cl (l.set k v):=by unfold cl;rw[Uw]
theorem Mb(l:List Nat)(k:Nat):(cl l).set k (.d (.int .i64 1))=cl (l.set k 1):=CH l k 1
theorem E8(l:List Nat)(k:Nat):(cl l).set k (.d (.int .i64 0))=cl (l.set k 0):=CH l k 0
def reg0(k:Nat):List Nat:=List.replicate k 1++List.replicate (32-k) 0
theorem B7(k:Nat)(h:k≤32):(reg0 k).length=32:=by simp[reg0];omega
theorem Jd(k:Nat)(h:k<32):(reg0 k).set k 1=reg0 (k+1):=by unfold reg0;rw[TL _ _ (by simp),Tv,Tl,show 32-k=(32-(k+1))+1 from by omega,Vy,List.set_cons_zero,Vo (n:=k),Sd];rfl
theorem L4:cl (reg0 0)=List.replicate 32 (.d (.int .i64 0)):=rfl
def bitsOf(c:Nat):List Nat:=(List.range 32).map fun k=>c/2^k%2
theorem js(c:Nat):(bitsOf c).length=32:=by simp[bitsOf]
theorem uw(c k:Nat)(h:k<32):(bitsOf c).getD k 0=c/2^k%2:=by unfold bitsOf;rw[Ru,RF,TY h];rfl
theorem GE:reg0 32=bitsOf 4294967295:=by decide
def pI(c b k:Nat):Nat:=eZ k (c ^^^ b) ^^^ (b/2^k)
theorem Hh(c b:Nat):pI c b 0=c:=by unfold pI;rw[eZ,Vb,Vq,VY,Nat.xor_self,Wf]
theorem Le(c:Nat)(b:UInt8):pI c b.toNat 8=xU c b:=by have:b.toNat/2^8=0:=Vi b.toNat_lt;unfold pI;rw[this,Wf];rfl
theorem NY{c b:Nat}(hc:c<4294967296)(hb:b<4294967296)(k:Nat):pI c b k<4294967296:=
 UA (n:=32) (stepsN_lt (UA (n:=32) hc hb) k) (VL (U2 _ _) hb)
theorem dz(n:Nat):n%2=0∨n%2=1:=by omega
theorem Ab{a b:Nat}(ha:a=0∨a=1)(hb:b=0∨b=1):bits .xor .i64 (a:Int) (b:Int)=((a ^^^ b:Nat):Int):=by rcases ha with rfl|rfl<;>rcases hb with rfl|rfl<;>decide
theorem Ar(a b:Nat):(a ^^^ b)%2=(a%2) ^^^ (b%2):=by have:=@Nat.xor_mod_two_pow a b 1;simpa using this
theorem OD(c k:Nat)(b:UInt8):bits .xor .i64 ((pI c b.toNat k/1%2:Nat):Int) (IntKind.i64.wrap (bits .and .u8 ((b.toNat:Int)/2^k) 1))=((eZ k (c ^^^ b.toNat)%2:Nat):Int):=by
 have e0:(b.toNat:Int)/2^k=((b.toNat/2^k:Nat):Int):=by rw[V5,Int.natCast_pow];rfl
 have e1:=u8_and_nat (b.toNat/2^k) 1 (VL (U2 _ _) b.toNat_lt) (by decide);rw[VK] at e1;rw[e0,show(1:Int)=((1:Nat):Int) from rfl,e1,aa _ (by omega) (by omega),Vq,Ab (dz _) (dz _)];congr 1;unfold pI;rw[Ar,VY,Nat.xor_self,Wf]
theorem Kw(c:Nat)(h:c<4294967296):((List.take (min 32 31) (List.drop 1 (cl (bitsOf c)))++List.drop (min 32 31) (cl (bitsOf c))).set 31 (.d (.int .i64 0)))=cl (bitsOf (c/2)):=by
 have e:(List.take 31 (List.drop 1 (bitsOf c))++List.drop 31 (bitsOf c)).set 31 0=bitsOf (c/2):=by
  refine Us (by simp[bitsOf]) fun j h1 h2=>?_
  rw[V6];rw[js] at h2;split
  ·rename_i e;subst e;simp[bitsOf];omega
  ·rw[List.getElem_append_left (by simp[bitsOf];omega),UN,List.getElem_drop]
   simp only[bitsOf,T6,Ub];rw[TH,Nat.pow_add,Nat.pow_one]
 rw[←e,←E8];unfold cl;rw[Sb,U0,UF,UF];rfl
def xorR(c low j:Nat):List Nat:=(List.range 32).map fun t=>if t<j then(c/2^t%2) ^^^ (low*(3988292384/2^t%2)) else c/2^t%2
theorem ul(c low j:Nat):(xorR c low j).length=32:=by simp[xorR]
theorem GK(c low:Nat):xorR c low 0=bitsOf c:=by simp[xorR,bitsOf]
theorem Jy(c low j:Nat)(h:j<32):(xorR c low j).getD j 0=c/2^j%2:=by unfold xorR;rw[Ru,RF,TY h];simp
theorem Ib(c low j:Nat)(h:j<32):(xorR c low j).set j ((c/2^j%2) ^^^ (low*(3988292384/2^j%2)))=xorR c low (j+1):=by
 refine Us (by simp[xorR]) fun t h1 h2=>?_
 rw[V6];split
 ·rename_i e;subst e;simp[xorR]
 ·simp only[xorR,T6,Ub]
  by_cases ht:t<j
  ·rw[Rx ht,Rx (by omega)]
  ·rw[Rw ht,Rw (by omega)]
theorem MV(a b t:Nat):(a ^^^ b)/2^t%2=(a/2^t%2) ^^^ (b/2^t%2):=by rw[←Ar,←Ug,←Ug,←Ug,VM]
theorem FD(c p:Nat):xorR c (p%2) 32=bitsOf (c ^^^ (if p%2=1 then 3988292384 else 0)):=by
 refine Us (by simp[xorR,bitsOf]) fun t h1 h2=>?_
 rw[ul] at h1;simp only[xorR,bitsOf,T6,Ub];rw[Rx h1,MV];rcases dz p with e|e<;>rw[e]<;>simp
theorem GH(c b k:Nat):pI c b k/2 ^^^ (if eZ k (c ^^^ b)%2=1 then 3988292384 else 0)=pI c b (k+1):=by
 unfold pI;rw[eZ,rF];have e:∀ a b:Nat,(a ^^^ b)/2=(a/2) ^^^ (b/2):=fun a b=>by have:=@VM 1 a b;simpa[Ug] using this
 rw[e,TH,←TR];generalize eZ k (c ^^^ b)/2=x;generalize b/2^(k+1)=y;generalize (if eZ k (c ^^^ b)%2=1 then 3988292384 else 0)=z;rw[VY,VY,Nat.xor_comm y z]
theorem xo(n:Int)(h1:0≤n)(h2:n≤18446744073709551615):IntKind.u64.wrap n=n:=by simp[IntKind.wrap,IntKind.bits,IntKind.signed];omega
theorem FP(n:Int)(h0:0≤n)(h:n<2^62):IntKind.i64.wrap n=n:=aa n (by omega) (by omega)
theorem Iv(j:Nat):bits .and .i64 (3988292384/2^j) 1=((3988292384/2^j%2:Nat):Int):=by
 have e0:(3988292384:Int)/2^j=((3988292384/2^j:Nat):Int):=by rw[V5,Int.natCast_pow];rfl
 have:=(bits_nat .i64 62 (by decide) FP (3988292384/2^j) 1 (VL (U2 _ _) (by decide)) (by decide)).1;rw[VK] at this;rw[e0];exact this
theorem Nx(p q:Nat):IntKind.i64.wrap (((p%2:Nat):Int)*((q%2:Nat):Int))=((p%2*(q%2):Nat):Int):=by rcases dz p with e|e<;>rcases dz q with e2|e2<;>rw[e,e2]<;>decide
theorem Mf(a p q:Nat):bits .xor .i64 ((a%2:Nat):Int) ((p%2*(q%2):Nat):Int)=((a%2 ^^^ (p%2*(q%2)):Nat):Int):=
 Ab (dz _) (by rcases dz p with e|e<;>rcases dz q with e2|e2<;>rw[e,e2]<;>simp)
theorem LQ(c j:Nat)(h:c<4294967296)(hj:j<32):(4294967295-c)/2^j=2*((4294967295-c)/2^(j+1))+1-c/2^j%2:=by
 have e1:(4294967295-c)/2^j%2=1-c/2^j%2:=by have:=Vv (n:=32) h j;rw[show 2^32-(c+1)=4294967295-c from by omega] at this;rw[Vc,Vc,decide_eq_true hj,T5] at this;rcases dz (c/2^j) with e|e<;>rcases dz ((4294967295-c)/2^j) with e2|e2<;>rw[e,e2] at this<;>simp at this<;>omega
 have e2:(4294967295-c)/2^(j+1)=(4294967295-c)/2^j/2:=by rw[TH,TR]
 rw[e2]
 have:=dz (c/2^j);omega
theorem wO(s:List UInt8)(h:okS s):ab Tryz.prog [] 253 [S s] (ret (I (lY s))):=by
 unfold okS at h;refine zJ Tryz.func253 Tryz.ntmps253 Tryz.results253 ?_;simp only[go_sem];refine zW qw zn X5 (z1 ?_);refine WQ (ι:=Nat) (fun k=>k≤32) (fun k=>32-k) [0,3] (fun k=>[(12,I k)]) (fun k=>[.cells (cl (reg0 k))]) 0 ?_ ?_ ?_
 ·omega
 ·rw[L4];simp only[go_sem];exact zSm X5
 intro k hk;have hl:=B7 k hk;simp only[go_sem]
 (refine zW qw zn (zx @ye (zx @B7 (zx @TA (zx @Mb @Jd)))) (z2 ?_ ?_)<;>(repeat with_reducible intro hc))
 ·refine⟨k+1,by omega,by omega,?_⟩
  exact zSm X5
 ·have e0:k=32:=by omega
  subst e0;rw[GE];refine WQ (ι:=Nat) (fun i=>i≤s.length) (fun i=>s.length-i) [3,19,20] (fun i=>[(21,I i)]) (fun i=>[.cells (cl (bitsOf (gB (s.take i)))),.bytes s]) 0 ?_ ?_ ?_
  ·omega
  ·simp only[go_sem,EE];exact zSm X5
  intro i hi;have hc0:=EI (s.take i);simp only[go_sem]
  (refine zW qw zn @u8g (z2 ?_ ?_)<;>(repeat with_reducible intro hc))
  ·refine WQ (ι:=Nat) (fun k=>k≤8) (fun k=>8-k) [3,6,19,20,21] (fun k=>[(7,.d (.int .u64 k))]) (fun k=>[.cells (cl (bitsOf (pI (gB (s.take i)) (s.getD i 0).toNat k))),.bytes s]) 0 ?_ ?_ ?_
   ·omega
   ·simp only[go_sem,Hh];exact zSm X5
   intro k hk;have hr:=NY hc0 (EX (s.getD i 0)) k;have hbl:=js (pI (gB (s.take i)) (s.getD i 0).toNat k);simp only[go_sem]
   (refine zW qw zn (zx @ye (zx @js (zx @CX (zx @uw @E8)))) (z2 ?_ ?_)<;>(repeat with_reducible intro hc))
   ·rw[Kw _ hr,OD]
    refine WQ (ι:=Nat) (fun j=>j≤32) (fun j=>32-j) [3,6,7,8,19,20,21] (fun j=>[(41,I j)]) (fun j=>[.cells (cl (xorR (pI (gB (s.take i)) (s.getD i 0).toNat k/2) (eZ k (gB (s.take i) ^^^ (s.getD i 0).toNat)%2) j)),.bytes s]) 0 ?_ ?_ ?_
    ·omega
    ·simp only[go_sem,GK];exact zSm X5
    intro j hj;have hxl:=ul (pI (gB (s.take i)) (s.getD i 0).toNat k/2) (eZ k (gB (s.take i) ^^^ (s.getD i 0).toNat)%2) j;simp only[go_sem]
    (refine zW qw zn (zx @TA (zx @ye (zx @ul (zx @CX (zx @Jy (zx @xo (zx @Iv (zx @Nx (zx @Mf (zx @CH @Ib)))))))))) (z2 ?_ ?_)<;>(repeat with_reducible intro hc))
    ·refine⟨j+1,by omega,by omega,?_⟩
     exact zSm X5
    ·have e0:j=32:=by omega
     subst e0;refine⟨k+1,by omega,by omega,?_⟩;rw[FD,GH];exact zSm @xo
   ·have e0:k=8:=by omega
    subst e0;refine⟨i+1,by omega,by omega,?_⟩;rw[Le,←wy _ _ (by omega)];exact zSm X5
  ·have e0:i=s.length:=by omega
   subst e0;rw[RU] at *
   have hbl:=js (gB s);have hM:∀ j,(4294967295-gB s)/2^j≤4294967295:=fun j=>RW (U2 _ _) (Nat.sub_le _ _)
   have hz:(4294967295-gB s)/4294967296=0:=Vi (by omega);refine WQ (ι:=Nat) (fun j=>j≤32) (fun j=>j) [3] (fun j=>[(10,I ((4294967295-gB s)/2^j:Nat)),(11,I ((j:Int)-1))]) (fun j=>[.cells (cl (bitsOf (gB s))),.bytes s]) 32 ?_ ?_ ?_
   ·omega
   ·simp only[go_sem];exact zSm @hz
   intro j hj;have hMj:=hM j;have hb2:=dz (gB s/2^(j-1));simp only[go_sem]
   (refine zW qw zn (zx @TA (zx @ye (zx @js (zx @gb (zx @CX @uw))))) (z2 ?_ ?_)<;>(repeat with_reducible intro hc))
   ·refine⟨j-1,by omega,by omega,?_⟩
    have e1:=LQ (gB s) (j-1) (by omega) (by omega);rw[show j-1+1=j from by omega] at e1;have e2:2*(((4294967295-gB s)/2^j:Nat):Int)+1-((gB s/2^(j-1)%2:Nat):Int)=(((4294967295-gB s)/2^(j-1):Nat):Int):=by omega
    have e3:(j:Int)-1=((j-1:Nat):Int):=by omega
    simp only[e3];exact zSm @e2
   ·have e0:j=0:=by omega
    subst e0;exact zEe (zx @lY.eq_1 (zx @Vb @Vq))
theorem Pb(s:List UInt8):lY s≤4294967295:=Nat.sub_le _ _
structure Cur where
 t:List UInt8
 s:List UInt8
 bad:Bool
def cH(s:List UInt8)(b:Bool)(n:Nat):Cur:=if b=true∨s.length<n then⟨[],s,true⟩ else⟨s.take n,s.drop n,false⟩
theorem zT{s:List UInt8}{b:Bool}{n:Nat}(h:b=true∨s.length<n):cH s b n=⟨[],s,true⟩:=Rx h
theorem eL{s:List UInt8}{n:Nat}(h:n≤s.length):cH s false n=⟨s.take n,s.drop n,false⟩:=Rw (by simp;omega)
theorem uZ(s:List UInt8)(b:Bool)(n:Nat)(hs:okS s)(ni:Int)(hi:ni=n):ab Tryz.prog [.cells [S s,B b]] 202 [.ptr 0 0,I ni] (ew (S (cH s b n).t) [.cells [S (cH s b n).s,B (cH s b n).bad]]):=by
 subst hi;unfold okS at hs
 by_cases h:b=true∨s.length<n
 ·rw[zT h]
  refine zJ Tryz.func202 Tryz.ntmps202 Tryz.results202 ?_;simp only[go_sem]
  (refine zW qw zn X5 (z2 ?_ ?_)<;>(repeat with_reducible intro hc))
  ·(refine zOp X5 ?_;simp(disch:=omega) only[go_sem,aa];refine WV ?_ (af.same ⟨rfl,rfl⟩);refine zV [0] rfl rfl rfl rfl ?_ ?_<;>simp(disch:=omega) only[go_sem,aa,UL,UM])
  exfalso;rcases h with h|h
  ·rw[h] at hc;exact absurd hc.1 (by decide)
  ·omega
 ·rw[show b=false from by cases b<;>simp_all] at *
  rw[eL (by omega)];refine zJ Tryz.func202 Tryz.ntmps202 Tryz.results202 ?_;simp only[go_sem];have e:List.take (s.length-n) (List.drop n s)=List.drop n s:=Rz (by rw[RL];omega)
  (refine zW qw zn X5 (z1 ?_)<;>(repeat with_reducible intro hc))
  (refine zOp X5 ?_;simp(disch:=omega) only[go_sem,aa,R3,e];refine WV ?_ (af.same ⟨rfl,rfl⟩);refine zV [0] rfl rfl rfl rfl ?_ ?_<;>simp(disch:=omega) only[go_sem,aa,UL,UM,R3,e])
def kf(l:List UInt8):Int:=l.foldl (fun v x=>IntKind.i64.wrap (v*256+x.toNat)) 0
theorem eD(n:Int):IntKind.i64.wrap n=(n+9223372036854775808)%18446744073709551616-9223372036854775808:=by simp[IntKind.wrap,IntKind.bits,IntKind.signed];omega
theorem Ff(n:Int)(c:UInt8):bits .or .i64 (IntKind.i64.wrap (n*256)) (c.toNat:Int)=IntKind.i64.wrap (n*256+c.toNat):=by
 have hc:=c.toNat_lt;show IntKind.i64.wrap ((BitVec.ofInt 64 (IntKind.i64.wrap (n*256)) ||| BitVec.ofInt 64 (c.toNat:Int)).toNat:Int)=_;have e1:(BitVec.ofInt 64 (IntKind.i64.wrap (n*256))).toNat=((n*256)%18446744073709551616).toNat:=by rw[BitVec.toNat_ofInt,eD];congr 1;omega
 rw[BitVec.toNat_or,ofInt_u64 c.toNat (by omega),e1,nat_join 8 _ _ (by omega) (by omega),eD,eD];omega
theorem nf(t:List UInt8)(k:Nat)(h:k<t.length):kf (t.take (k+1))=IntKind.i64.wrap (kf (t.take k)*256+(t.getD k 0).toNat):=by
 unfold kf
 have:t.take (k+1)=t.take k++[t.getD k 0]:=aN t k h;rw[this,Tm];rfl
theorem dR(b:UInt8):IntKind.i64.wrap (b.toNat:Int)=(b.toNat:Int):=by have:=b.toNat_lt;rw[eD];omega
theorem z7(s:List UInt8)(b:Bool)(n:Nat)(hs:okS s)(ni:Int)(hi:ni=n)(hn:n≤8):ab Tryz.prog [.cells [S s,B b]] 203 [.ptr 0 0,I ni] (ew (I (kf (cH s b n).t)) [.cells [S (cH s b n).s,B (cH s b n).bad]]):=by
 have hl:(cH s b n).t.length≤8:=by unfold cH;split<;>simp;omega
 generalize hk:cH s b n=k at hl;refine zJ Tryz.func203 Tryz.ntmps203 Tryz.results203 ?_;simp only[go_sem];have ct:ab Tryz.prog [.cells [S s,B b]] 202 [.ptr 0 0,I ni] (ew (S k.t) [.cells [S k.s,B k.bad]]):=hk▸uZ s b n hs ni hi
 (refine zW qw (z1 (ac [0] ct)) X5 (z1 ?_)<;>(repeat with_reducible intro hc))
 refine WQ (ι:=Nat) (fun j=>j≤k.t.length) (fun j=>k.t.length-j) [11,12] (fun j=>[(5,I (kf (k.t.take j))),(13,I j)]) (fun j=>[.cells [S k.s,B k.bad],.bytes k.t]) 0 ?_ ?_ ?_
 ·omega
 ·simp only[go_sem,kf,Ww];exact zSm X5
 intro j hj;simp only[go_sem]
 (refine zW qw zn (zx @u8g (zx @Ff @dR)) (z2 ?_ ?_)<;>(repeat with_reducible intro hc))
 ·refine⟨j+1,by omega,by omega,?_⟩
  rw[nf _ _ (by assumption)];exact zSm (zx @Ff (zx @dR @u8g))
 rw[show j=k.t.length from by omega,RU]
 (refine zOp X5 ?_;simp(disch:=omega) only[go_sem,aa];refine WV ?_ (af.same ⟨rfl,rfl⟩);refine zV [0] rfl rfl rfl rfl ?_ ?_<;>simp(disch:=omega) only[go_sem,aa,UL,UM])
theorem oc(n:Int)(b:UInt8):IntKind.i64.wrap (IntKind.i64.wrap (n*256)+(b.toNat:Int))=IntKind.i64.wrap (n*256+b.toNat):=by rw[eD,eD,eD];omega
theorem uX(s:List UInt8)(hs:okS s):ab Tryz.prog [] 252 [S s] (ret (I (kf s))):=by
 unfold okS at hs;refine zJ Tryz.func252 Tryz.ntmps252 Tryz.results252 ?_;simp only[go_sem]
 (refine zW qw zn X5 (z1 ?_)<;>(repeat with_reducible intro hc))
 refine WQ (ι:=Nat) (fun j=>j≤s.length) (fun j=>s.length-j) [7,8] (fun j=>[(3,I (kf (s.take j))),(9,I j)]) (fun j=>[.bytes s]) 0 ?_ ?_ ?_
 ·omega
 ·simp only[go_sem,kf,Ww];exact zSm X5
 intro j hj;simp only[go_sem]
 (refine zW qw zn (zx @u8g (zx @dR @oc)) (z2 ?_ ?_)<;>(repeat with_reducible intro hc))
 ·refine⟨j+1,by omega,by omega,?_⟩
  rw[nf _ _ (by assumption)];exact zSm (zx @dR (zx @u8g @oc))
 rw[show j=s.length from by omega,RU];exact zEe X5
def numN(l:List UInt8):Nat:=l.foldl (fun v x=>v*256+x.toNat) 0
theorem wH(t:List UInt8)(k:Nat)(h:k<t.length):numN (t.take (k+1))=numN (t.take k)*256+(t.getD k 0).toNat:=by
 unfold numN
 have:t.take (k+1)=t.take k++[t.getD k 0]:=aN t k h;rw[this,Tm];rfl
theorem qY(t:List UInt8):∀ k,k≤t.length→k≤7→numN (t.take k)<256^k∧kf (t.take k)=((numN (t.take k):Nat):Int)
 |0,_,_=>⟨by simp[numN],rfl⟩
 | k+1,h,h7=>by
   obtain⟨h1,h2⟩:=qY t k (by omega) (by omega);have hb:=(t.getD k 0).toNat_lt;have hp:256^k≤256^6:=UT (by decide) (by omega);have hq:256^(k+1)=256^k*256:=TR ..;rw[wH t k (by omega),nf t k (by omega),h2,eD];omega
theorem yz{t:List UInt8}{k:Nat}(h:t.length≤k)(h7:k≤7):numN t<256^k:=by have:=(qY t t.length (RE _) (by omega)).1;rw[RU] at this;exact Sy this (UT (by decide) h)
theorem uf{t:List UInt8}(h:t.length≤7):kf t=((numN t:Nat):Int):=by have:=(qY t t.length (RE _) h).2;rwa[RU] at this
theorem vI(b:UInt8):numN [b]=b.toNat:=by simp[numN]
theorem BM(l:List UInt8):okI (kf l):=by
 rcases Vg l with rfl|⟨l,x,rfl⟩
 ·unfold kf okI;decide
 ·unfold kf okI
  rw[Vh,Tm];simp only[Uh,Ww];rw[eD];omega
theorem kS(s:List UInt8)(hs:s.length≤7):ab Tryz.prog [] 252 [S s] (ret (I (numN s:Nat))):=by rw[←uf hs];exact uX s (by unfold okS;omega)
def tz:ATxn:=⟨0,0,0,[],[],0,0⟩
def bP(b:List UInt8):Nat:=(b.getD 21 0).toNat
def bD(b:List UInt8):Nat:=numN ((b.drop (22+bP b)).take 2)
def dZ(b:List UInt8):ATxn:=⟨kf (b.take 8),(b.getD 8 0).toNat,(numN ((b.drop 9).take 4):Nat),(b.drop 22).take (bP b),b.drop (24+bP b),(numN ((b.drop 13).take 4):Nat),(numN ((b.drop 17).take 4):Nat)⟩
def dK(b:List UInt8):Prop:=b.length=24+bP b+bD b
def sN(s:List UInt8):Nat:=numN ((s.drop 1).take 2)
def sB(s:List UInt8):List UInt8:=(s.drop 3).take (sN s)
instance (b:List UInt8):Decidable (dK b):=inferInstanceAs (Decidable (_=_))
def dw(s:List UInt8):Prop:=s.length<3∨s.getD 0 0≠84
def dU(s:List UInt8):Prop:=1024<sN s∨s.length<sN s+7
def gF(s:List UInt8):Prop:=numN ((s.drop (sN s+3)).take 4)≠lY (s.take (sN s+3))
instance (s:List UInt8):Decidable (dw s):=inferInstanceAs (Decidable (_∨_))
instance (s:List UInt8):Decidable (dU s):=inferInstanceAs (Decidable (_∨_))
instance (s:List UInt8):Decidable (gF s):=inferInstanceAs (Decidable (_≠_))
def cb(s:List UInt8):ATxn×Int×Int:=
 if dw s then(tz,0,2)
 else if dU s then(tz,0,2)
 else if gF s then(tz,0,5)
 else if ¬ dK (sB s) then(tz,0,2)
 else if aT (dZ (sB s))≠0 then(tz,0,aT (dZ (sB s)))
 else(dZ (sB s),(sN s+7:Nat),0)
theorem Qh(s:List UInt8):sN s<65536:=yz (k:=2) (by simp;omega) (by decide)
theorem qq{s:List UInt8}(h:dw s):cb s=(tz,0,2):=by unfold cb;rw[Rx h]
theorem tl{s:List UInt8}(h1:¬ dw s)(h:dU s):cb s=(tz,0,2):=by unfold cb;rw[Rw h1,Rx h]
theorem yZ{s:List UInt8}(h1:¬ dw s)(h2:¬ dU s)(h:gF s):cb s=(tz,0,5):=by unfold cb;rw[Rw h1,Rw h2,Rx h]
theorem qM{s:List UInt8}(h1:¬ dw s)(h2:¬ dU s)(h3:¬ gF s)(h:¬ dK (sB s)):cb s=(tz,0,2):=by unfold cb;rw[Rw h1,Rw h2,Rw h3,Rx h]
theorem yK{s:List UInt8}(h1:¬ dw s)(h2:¬ dU s)(h3:¬ gF s)(h4:dK (sB s))(h:aT (dZ (sB s))≠0):cb s=(tz,0,aT (dZ (sB s))):=by unfold cb;rw[Rw h1,Rw h2,Rw h3,Rw (fun h=>h h4),Rx h]
theorem va{s:List UInt8}(h1:¬ dw s)(h2:¬ dU s)(h3:¬ gF s)(h4:dK (sB s))(h:aT (dZ (sB s))=0):cb s=(dZ (sB s),((sN s+7:Nat):Int),0):=by unfold cb;rw[Rw h1,Rw h2,Rw h3,Rw (fun h=>h h4),Rw (fun h'=>h' h)]
theorem BR{s:List UInt8}:dw s↔(s.length:Int)<3∨¬ ((s.getD 0 0).toNat:Int)=84:=by
 unfold dw
 have e:(s.getD 0 0≠84)↔¬ ((s.getD 0 0).toNat:Int)=84:=by
  constructor
  ·intro h e;apply h;exact U1.1 (by show(s.getD 0 0).toNat=84;omega)
  ·intro h e;apply h;rw[e];rfl
 rw[e];omega
theorem BP{s:List UInt8}:dU s↔1024<(sN s:Int)∨(s.length:Int)<(sN s:Int)+7:=by unfold dU;omega
theorem pd(s:List UInt8)(hs:s.length≤1048576):ab Tryz.prog [] 209 [S s] (ret (.tup [(cb s).1.av,I (cb s).2.1,I (cb s).2.2])):=by
 have hn1:ab Tryz.prog [] 252 [S ((s.drop 1).take 2)] (ret (I (sN s))):=kS _ (by simp;omega);have hN:=Qh s;have q3:((sN s:Int)+3).toNat=sN s+3:=by omega
 have q7:((sN s:Int)+7).toNat=sN s+7:=by omega
 have hsum:ab Tryz.prog [] 253 [S (s.take (sN s+3))] (ret (I (lY (s.take (sN s+3))))):=wO _ (by unfold okS;simp;omega);have q4:sN s+7-(sN s+3)=4:=by omega
 have q5:List.take (sN s+3-3) (List.drop 3 s)=sB s:=by unfold sB;rw[Tq]
 have hW:ab Tryz.prog [] 252 [S ((sB s).take 8)] (ret (I (kf ((sB s).take 8)))):=uX _ (by unfold okS;simp;omega);have hbl:(sB s).length≤1048576:=by unfold sB;simp;omega
 have hP:bP (sB s)<256:=UInt8.toNat_lt _;have hD:bD (sB s)<65536:=yz (k:=2) (by simp;omega) (by decide);have ebp:((sB s).getD 21 0).toNat=bP (sB s):=rfl;have ebd:numN (List.take 2 (List.drop (22+bP (sB s)) (sB s)))=bD (sB s):=rfl;have q22:(22+(bP (sB s):Int)).toNat=22+bP (sB s):=by omega
 have q24:(24+(bP (sB s):Int)).toNat=24+bP (sB s):=by omega
 have q2:24+bP (sB s)-(22+bP (sB s))=2:=by omega
 have q0:22+bP (sB s)-22=bP (sB s):=by omega
 have qd:List.take ((sB s).length-(24+bP (sB s))) (List.drop (24+bP (sB s)) (sB s))=List.drop (24+bP (sB s)) (sB s):=Rz (by rw[RL];omega);have hG:ab Tryz.prog [] 219 [(dZ (sB s)).av] (ret (I (aT (dZ (sB s))))):=cZ _ (BM _) (by simp[dZ];omega) (by unfold okS;simp[dZ];omega);unfold ATxn.av dZ at hG;refine zJ Tryz.func209 Tryz.ntmps209 Tryz.results209 ?_;simp only[go_sem]
 (repeat' first
|(with_reducible refine AR.f ?_)
|refine bI (by decide) ?_
|(with_reducible refine AWP.cond rfl ?_ ?_<;>intro hc<;>(try simp only[hcs,RN,RY,RZ] at hc))
|((first|((first|(with_reducible first|refine zR ?_|refine zQ ?_|refine zD ?_|refine zE ?_|refine zG ?_));intro K hK)|((first|refine zA hn1 ?_ ?_ ?_ ?_ ?_|refine zA hsum ?_ ?_ ?_ ?_ ?_|refine zA hW ?_ ?_ ?_ ?_ ?_|refine zA hG ?_ ?_ ?_ ?_ ?_);(focus exact rfl);(focus exact rfl);iterate 2 (focus((try simp(disch:=omega) only[go_sem,aa,q3,q7,q4,q5,R3,dR,ebp,q22,q24,q2,q0,ebd,qd])<;>(try omega)<;>fail)))|((first|refine acallH_sc (kS _ (by simp;omega)) rfl rfl ?_ ?_ ?_|refine acallQ_sc (kS _ (by simp;omega)) rfl rfl ?_ ?_ ?_);iterate 2 (focus((try simp(disch:=omega) only[go_sem,aa,q3,q7,q4,q5,R3,dR,ebp,q22,q24,q2,q0,ebd,qd])<;>(try omega)<;>fail)))|((first|refine zX hsum rfl ?_ ?_|refine zX hG rfl ?_ ?_);(focus((try simp(disch:=omega) only[go_sem,aa,q3,q7,q4,q5,R3,dR,ebp,q22,q24,q2,q0,ebd,qd])<;>(try omega)<;>fail)))|((first|refine zX hn1 rfl ?_ ?_);(focus((try simp(disch:=omega) only[go_sem,aa,q3,q7,q4,q5,R3,dR,ebp,q22,q24,q2,q0,ebd,qd])<;>(try omega)<;>fail)))|((first|refine zX (kS _ (by simp;omega)) rfl ?_ ?_);(focus((try simp(disch:=omega) only[go_sem,aa,q3,q7,q4,q5,R3,dR,ebp,q22,q24,q2,q0,ebd,qd])<;>(try omega)<;>fail)))|((first|refine zX hW rfl ?_ ?_);(focus((try simp(disch:=omega) only[go_sem,aa,q3,q7,q4,q5,R3,dR,ebp,q22,q24,q2,q0,ebd,qd])<;>(try omega)<;>fail)))|((first|(with_reducible refine aunder_i ?_ ?_<;>intro hg)|with_reducible intro hg)<;>(first|(exfalso;simp at hg;done)|(have hg':=hg;(try simp only[hcs,RN,RY,RZ] at hg');(try simp only[hg])))))<;>(try simp(disch:=omega) only[go_sem,aa,q3,q7,q4,q5,R3,dR,ebp,q22,q24,q2,q0,ebd,qd])<;>(repeat' with_reducible refine Sg ?_ ?_)<;>(try(with_reducible refine hK _ ?_;clear hK K)))
|omega)
 ·rw[qq (BR.2 hc)];exact zEe @tz.eq_1
 all_goals(have h1:¬ dw s:=fun h=>by have:=BR.1 h;omega)
 ·rw[tl h1 (BP.2 hc)];exact zEe @tz.eq_1
 all_goals(have h2:¬ dU s:=fun h=>by have:=BP.1 h;omega)
 ·rw[yZ h1 h2 (by unfold gF;omega)];exact zEe @tz.eq_1
 all_goals(have h3:¬ gF s:=fun h=>by unfold gF at h;omega)
 ·rw[qM h1 h2 h3 (by unfold dK;omega)];exact zEe @tz.eq_1
 ·rw[qM h1 h2 h3 (by unfold dK;omega)];exact zEe @tz.eq_1
 ·rw[qM h1 h2 h3 (by unfold dK;omega)];exact zEe @tz.eq_1
 ·rw[yK h1 h2 h3 (by unfold dK;omega) hc];exact zEe (zx @tz.eq_1 @dZ.eq_1)
 ·rw[va h1 h2 h3 (by unfold dK;omega) hc];exact zEe (zx @dZ.eq_1 @Si)
theorem ij(s:List UInt8)(b:Bool)(n:Nat)(hs:okS s)(ni:Int)(hi:ni=n)(hn:n≤7):ab Tryz.prog [.cells [S s,B b]] 203 [.ptr 0 0,I ni] (ew (I (numN (cH s b n).t:Nat)) [.cells [S (cH s b n).s,B (cH s b n).bad]]):=by
 have hl:(cH s b n).t.length≤7:=by unfold cH;split<;>simp;omega
 rw[←uf hl];exact z7 s b n hs ni hi (by omega)
theorem LM(s:List UInt8)(b:Bool)(n:Nat):(cH s b n).s.length≤s.length∧(cH s b n).t.length≤s.length∧(cH s b n).t.length≤n:=by unfold cH;split<;>simp<;>omega
theorem Ha{s:List UInt8}{b:Bool}{n:Nat}(h:(cH s b n).bad=false):b=false∧n≤s.length∧(cH s b n).t=s.take n∧(cH s b n).s=s.drop n:=by
 unfold cH at *
 split at h
 ·cases h
 ·rename_i hn
  rw[Rw hn];exact⟨by cases b<;>simp_all,by omega,rfl,rfl⟩
theorem Nd{s:List UInt8}{n:Nat}(h:(cH s false n).bad=true):s.length<n:=by
 rcases Ux s.length n with h'|h'
 ·exact h'
 ·rw[eL h'] at h;cases h
structure Dec where
 k1:Cur
 k2:Cur
 k3:Cur
 k4:Cur
 j1:Cur
 j2:Cur
 j3:Cur
 j4:Cur
 j5:Cur
 j6:Cur
 j7:Cur
 j8:Cur
 j9:Cur
structure X1 (s:List UInt8) (d:Dec):Prop where
 k1:cH s false 1=d.k1
 k2:cH d.k1.s d.k1.bad 2=d.k2
 k3:cH d.k2.s d.k2.bad (numN d.k2.t)=d.k3
 k4:cH d.k3.s d.k3.bad 4=d.k4
 j1:cH d.k3.t false 8=d.j1
 j2:cH d.j1.s d.j1.bad 1=d.j2
 j3:cH d.j2.s d.j2.bad 4=d.j3
 j4:cH d.j3.s d.j3.bad 4=d.j4
 j5:cH d.j4.s d.j4.bad 4=d.j5
 j6:cH d.j5.s d.j5.bad 1=d.j6
 j7:cH d.j6.s d.j6.bad (numN d.j6.t)=d.j7
 j8:cH d.j7.s d.j7.bad 2=d.j8
 j9:cH d.j8.s d.j8.bad (numN d.j8.t)=d.j9
theorem reads(s:List UInt8):∃ d,X1 s d:=by
 let k1:=cH s false 1
 let k2:=cH k1.s k1.bad 2
 let k3:=cH k2.s k2.bad (numN k2.t)
 let k4:=cH k3.s k3.bad 4
 let j1:=cH k3.t false 8
 let j2:=cH j1.s j1.bad 1
 let j3:=cH j2.s j2.bad 4
 let j4:=cH j3.s j3.bad 4
 let j5:=cH j4.s j4.bad 4
 let j6:=cH j5.s j5.bad 1
 let j7:=cH j6.s j6.bad (numN j6.t)
 let j8:=cH j7.s j7.bad 2
 let j9:=cH j8.s j8.bad (numN j8.t)
 exact⟨⟨k1,k2,k3,k4,j1,j2,j3,j4,j5,j6,j7,j8,j9⟩,⟨rfl,rfl,rfl,rfl,rfl,rfl,rfl,rfl,rfl,rfl,rfl,rfl,rfl⟩⟩
theorem gd{s:List UInt8}{b:Bool}{n:Nat}{k:Cur}(e:cH s b n=k)(h:k.bad=false):b=false∧n≤s.length∧k.t=s.take n∧k.s=s.drop n:=by subst e;exact Ha h
theorem no{s:List UInt8}{n:Nat}{k:Cur}(e:cH s false n=k)(h:k.bad=true):s.length<n:=by subst e;exact Nd h
theorem ln{s:List UInt8}{b:Bool}{n m:Nat}{k:Cur}(e:cH s b n=k)(h:s.length≤m):k.s.length≤m∧k.t.length≤m∧k.t.length≤n:=by subst e;have:=LM s b n;omega
def v8(d:Dec):ATxn:=⟨kf d.j1.t,(numN d.j2.t:Nat),(numN d.j3.t:Nat),d.j7.t,d.j9.t,(numN d.j4.t:Nat),(numN d.j5.t:Nat)⟩
theorem Lh{s:List UInt8}{d:Dec}(r:X1 s d)(h:d.k1.t≠[84]):dw s:=by
 unfold dw;rcases Ux s.length 1 with h0|h0
 ·left;omega
 right;intro e;apply h
 have:=r.k1;rw[eL h0] at this;rw[←this]
 match s,h0,e with
 |x::s,_,e=>simp at e;simp[e]
theorem Ep{s:List UInt8}{d:Dec}(r:X1 s d)(h:d.k1.t=[84]):d.k1.bad=false∧d.k1.s=s.drop 1∧1≤s.length∧s.getD 0 0=84:=by
 have h1:=r.k1;rcases Ux s.length 1 with h0|h0
 ·rw[zT (.inr h0)] at h1;rw[←h1] at h;cases h
 rw[eL h0] at h1;rw[←h1] at h;refine⟨by rw[←h1],by rw[←h1],h0,?_⟩
 match s,h0,h with
 |x::s,_,h=>simp at h;simp[h]
theorem MS{s:List UInt8}{d:Dec}(r:X1 s d)(h:d.k1.t=[84])(h2:d.k2.bad=true):dw s:=by
 obtain⟨a1,a2,a3,_⟩:=Ep r h;have h3:=r.k2;rw[a1,a2] at h3
 have:=no h3 h2;rw[RL] at this
 left;omega
theorem E4{s:List UInt8}{d:Dec}(r:X1 s d)(h:d.k1.t=[84])(h2:d.k2.bad=false):¬ dw s∧numN d.k2.t=sN s∧d.k2.s=s.drop 3:=by
 obtain⟨a1,a2,a3,a4⟩:=Ep r h;obtain⟨_,b2,b3,b4⟩:=gd r.k2 h2;rw[a2] at b2 b3 b4;rw[RL] at b2;refine⟨fun hh=>?_,by rw[b3];rfl,by rw[b4,Sv]⟩;rcases hh with hh|hh
 ·omega
 ·exact hh a4
theorem KL{s:List UInt8}{d:Dec}(r:X1 s d)(h:d.k1.t=[84])(h2:d.k2.bad=false)(h4:d.k4.bad=true):s.length<sN s+7:=by
 obtain⟨a1,a2,a3⟩:=E4 r h h2;rcases Ux s.length (sN s+7) with h'|h'
 ·exact h'
 have r3:=r.k3;rw[h2,a2,a3,eL (by rw[RL];omega)] at r3;have r4:=r.k4;rw[←r3] at r4
 have:=no r4 h4;simp at this;omega
theorem KJ{s:List UInt8}{d:Dec}(r:X1 s d)(h:d.k1.t=[84])(h2:d.k2.bad=false)(h4:d.k4.bad=false):sN s+7≤s.length∧d.k3.t=sB s∧d.k4.t=(s.drop (sN s+3)).take 4:=by obtain⟨a1,a2,a3⟩:=E4 r h h2;obtain⟨b1,b2,b3,b4⟩:=gd r.k4 h4;obtain⟨c1,c2,c3,c4⟩:=gd r.k3 b1;rw[a2,a3] at c2 c3 c4;rw[RL] at c2;rw[c4] at b2 b3;rw[Sv] at b2 b3;rw[RL] at b2;exact⟨by omega,c3,by rw[b3,TD 3]⟩
theorem Nm{s:List UInt8}{d:Dec}(r:X1 s d){b:List UInt8}(hb:d.k3.t=b)(h9:d.j9.bad=false)(hs:d.j9.s=[]):dK b∧v8 d=dZ b:=by
 obtain⟨i9,l9,t9,s9⟩:=gd r.j9 h9;obtain⟨i8,l8,t8,s8⟩:=gd r.j8 i9;obtain⟨i7,l7,t7,s7⟩:=gd r.j7 i8;obtain⟨i6,l6,t6,s6⟩:=gd r.j6 i7;obtain⟨i5,l5,t5,s5⟩:=gd r.j5 i6;obtain⟨i4,l4,t4,s4⟩:=gd r.j4 i5;obtain⟨i3,l3,t3,s3⟩:=gd r.j3 i4;obtain⟨i2,l2,t2,s2⟩:=gd r.j2 i3;obtain⟨i1,l1,t1,s1⟩:=gd r.j1 i2;rw[hb] at t1 s1 l1;rw[s1] at t2 s2 l2;rw[s2,Sv] at t3 s3 l3;rw[s3,Sv] at t4 s4 l4;rw[s4,Sv] at t5 s5 l5;rw[s5,Sv] at t6 s6 l6;rw[s6,Sv] at t7 s7 l7;rw[s7,Sv] at t8 s8 l8;rw[s8,Sv] at t9 s9 l9;simp only[Nat.reduceAdd,RL] at *
 have e1:∀ k,k<b.length→(b.drop k).take 1=[b.getD k 0]:=fun k hk=>by rw[SU hk,S3,S4];simp[hk]
 have n6:numN d.j6.t=bP b:=by rw[t6,e1 21 (by omega),vI];rfl
 rw[n6] at t7 s7 l7 t8 s8 l8 t9 s9 l9;have n8:numN d.j8.t=bD b:=by rw[t8,show 8+(14+bP b)=22+bP b from by omega];rfl
 rw[n8] at t9 s9 l9;have hz:d.j9.s.length=0:=by rw[hs];rfl
 rw[s9] at hz;simp only[RL] at hz;have hok:b.length=24+bP b+bD b:=by omega
 refine⟨hok,?_⟩;unfold v8 dZ;rw[t1,t2,t3,t4,t5,t7,t9,e1 8 (by omega),vI];congr 1
 ·rw[show 8+(14+bP b+2)=24+bP b from by omega]
  exact Rz (by rw[RL];omega)
theorem Jj{s:List UInt8}{d:Dec}(r:X1 s d){b:List UInt8}(hb:d.k3.t=b)(h:dK b):d.j9.bad=false∧d.j9.s=[]:=by
 unfold dK at h;have e1:∀ k,k<b.length→(b.drop k).take 1=[b.getD k 0]:=fun k hk=>by rw[SU hk,S3,S4];simp[hk]
 have r1:=r.j1;rw[hb,eL (by omega)] at r1;have r2:=r.j2;rw[←r1,eL (by simp only[RL];omega),Sv] at r2;have r3:=r.j3;rw[←r2,eL (by simp only[RL];omega),Sv] at r3;have r4:=r.j4;rw[←r3,eL (by simp only[RL];omega),Sv] at r4;have r5:=r.j5;rw[←r4,eL (by simp only[RL];omega),Sv] at r5;have r6:=r.j6;rw[←r5,eL (by simp only[RL];omega),Sv,e1 _ (by omega)] at r6;have n6:numN d.j6.t=bP b:=by rw[←r6,vI];rfl
 have r7:=r.j7;rw[n6,←r6,eL (by simp only[RL];omega),Sv] at r7;have r8:=r.j8;rw[←r7,eL (by simp only[RL];omega),Sv] at r8;have n8:numN d.j8.t=bD b:=by rw[←r8];rfl
 have r9:=r.j9;rw[n8,←r8,eL (by simp only[RL];omega),Sv] at r9;exact⟨by rw[←r9],by rw[←r9];exact T3 (by omega)⟩
theorem decode_c(s:List UInt8)(hs:s.length≤1048576):ab Tryz.prog [] 140 [S s] (ret (.tup [(cb s).1.av,I (cb s).2.1,I (cb s).2.2])):=by
 obtain⟨d,r⟩:=reads s;have e1:=ln r.k1 hs;have e2:=ln r.k2 e1.1;have e3:=ln r.k3 e2.1;have e4:=ln r.k4 e3.1;have f1:=ln r.j1 e3.2.1;have f2:=ln r.j2 f1.1;have f3:=ln r.j3 f2.1;have f4:=ln r.j4 f3.1;have f5:=ln r.j5 f4.1;have f6:=ln r.j6 f5.1;have f7:=ln r.j7 f6.1;have f8:=ln r.j8 f7.1;have f9:=ln r.j9 f8.1;have hn:numN d.k2.t<65536:=yz (k:=2) e2.2.2 (by decide);have ok {t:List UInt8} (h:t.length≤1048576):okS t:=by unfold okS;omega
 have c1:=uZ s false 1 (ok hs) 1 rfl;have c2:=ij d.k1.s d.k1.bad 2 (ok e1.1) 2 rfl (by decide);have c3:=uZ d.k2.s d.k2.bad (numN d.k2.t) (ok e2.1) (numN d.k2.t:Nat) rfl;have c4:=ij d.k3.s d.k3.bad 4 (ok e3.1) 4 rfl (by decide);have b1:=z7 d.k3.t false 8 (ok e3.2.1) 8 rfl (by decide);have b2:=ij d.j1.s d.j1.bad 1 (ok f1.1) 1 rfl (by decide);have b3:=ij d.j2.s d.j2.bad 4 (ok f2.1) 4 rfl (by decide);have b4:=ij d.j3.s d.j3.bad 4 (ok f3.1) 4 rfl (by decide);have b5:=ij d.j4.s d.j4.bad 4 (ok f4.1) 4 rfl (by decide);have b6:=ij d.j5.s d.j5.bad 1 (ok f5.1) 1 rfl (by decide);have b7:=uZ d.j6.s d.j6.bad (numN d.j6.t) (ok f6.1) (numN d.j6.t:Nat) rfl;have b8:=ij d.j7.s d.j7.bad 2 (ok f7.1) 2 rfl (by decide);have b9:=uZ d.j8.s d.j8.bad (numN d.j8.t) (ok f8.1) (numN d.j8.t:Nat) rfl;rw[r.k1] at c1;rw[r.k2] at c2;rw[r.k3] at c3;rw[r.k4] at c4;rw[r.j1] at b1;rw[r.j2] at b2;rw[r.j3] at b3;rw[r.j4] at b4;rw[r.j5] at b5;rw[r.j6] at b6;rw[r.j7] at b7;rw[r.j8] at b8;rw[r.j9] at b9;have q3:(3+(numN d.k2.t:Int)).toNat=3+numN d.k2.t:=by omega
 have cs:=Oh (s.take (3+numN d.k2.t)) (ok (by simp;omega));have cg:ab Tryz.prog [] 119 [(v8 d).av] (ret (I (aT (v8 d)))):=sJ (v8 d) (ok f7.2.1) (ok f9.2.1);unfold ATxn.av v8 at cg;refine zJ Tryz.func140 Tryz.ntmps140 Tryz.results140 ?_;simp only[go_sem]
 (repeat' first
|(with_reducible refine AR.f ?_)
|(with_reducible refine AWP.cond rfl ?_ ?_<;>intro hc<;>(try simp only[hcs,RN,RY,RZ] at hc))
|((first|((first|(with_reducible first|refine zR ?_));intro K hK)|((first|refine zA cs ?_ ?_ ?_ ?_ ?_|refine zA cg ?_ ?_ ?_ ?_ ?_);(focus exact rfl);(focus exact rfl);iterate 2 (focus((try simp(disch:=omega) only[go_sem,aa,q3,R3])<;>(try omega)<;>fail)))|((first|refine zX cs rfl ?_ ?_|refine zX cg rfl ?_ ?_);(focus((try simp(disch:=omega) only[go_sem,aa,q3,R3])<;>(try omega)<;>fail)))|(refine cN [1] (c1) ?_ ?_ ?_;(focus((try simp(disch:=omega) only[inj,R8,S6,R7,RV,RP,RS,Se,go_sem,aa,q3,R3])<;>(try omega)<;>fail));(focus((try simp(disch:=omega) only[inj,R8,S6,R7,RV,RP,RS,Se,go_sem,aa,q3,R3])<;>(try omega)<;>(try decide)<;>fail)))|(refine cN [1] (c2) ?_ ?_ ?_;(focus((try simp(disch:=omega) only[inj,R8,S6,R7,RV,RP,RS,Se,go_sem,aa,q3,R3])<;>(try omega)<;>fail));(focus((try simp(disch:=omega) only[inj,R8,S6,R7,RV,RP,RS,Se,go_sem,aa,q3,R3])<;>(try omega)<;>(try decide)<;>fail)))|(refine cN [1] (c3) ?_ ?_ ?_;(focus((try simp(disch:=omega) only[inj,R8,S6,R7,RV,RP,RS,Se,go_sem,aa,q3,R3])<;>(try omega)<;>fail));(focus((try simp(disch:=omega) only[inj,R8,S6,R7,RV,RP,RS,Se,go_sem,aa,q3,R3])<;>(try omega)<;>(try decide)<;>fail)))|(refine cN [1] (c4) ?_ ?_ ?_;(focus((try simp(disch:=omega) only[inj,R8,S6,R7,RV,RP,RS,Se,go_sem,aa,q3,R3])<;>(try omega)<;>fail));(focus((try simp(disch:=omega) only[inj,R8,S6,R7,RV,RP,RS,Se,go_sem,aa,q3,R3])<;>(try omega)<;>(try decide)<;>fail)))|(refine cN [2] (b1) ?_ ?_ ?_;(focus((try simp(disch:=omega) only[inj,R8,S6,R7,RV,RP,RS,Se,go_sem,aa,q3,R3])<;>(try omega)<;>fail));(focus((try simp(disch:=omega) only[inj,R8,S6,R7,RV,RP,RS,Se,go_sem,aa,q3,R3])<;>(try omega)<;>(try decide)<;>fail)))|(refine cN [2] (b2) ?_ ?_ ?_;(focus((try simp(disch:=omega) only[inj,R8,S6,R7,RV,RP,RS,Se,go_sem,aa,q3,R3])<;>(try omega)<;>fail));(focus((try simp(disch:=omega) only[inj,R8,S6,R7,RV,RP,RS,Se,go_sem,aa,q3,R3])<;>(try omega)<;>(try decide)<;>fail)))|(refine cN [2] (b3) ?_ ?_ ?_;(focus((try simp(disch:=omega) only[inj,R8,S6,R7,RV,RP,RS,Se,go_sem,aa,q3,R3])<;>(try omega)<;>fail));(focus((try simp(disch:=omega) only[inj,R8,S6,R7,RV,RP,RS,Se,go_sem,aa,q3,R3])<;>(try omega)<;>(try decide)<;>fail)))|(refine cN [2] (b4) ?_ ?_ ?_;(focus((try simp(disch:=omega) only[inj,R8,S6,R7,RV,RP,RS,Se,go_sem,aa,q3,R3])<;>(try omega)<;>fail));(focus((try simp(disch:=omega) only[inj,R8,S6,R7,RV,RP,RS,Se,go_sem,aa,q3,R3])<;>(try omega)<;>(try decide)<;>fail)))|(refine cN [2] (b5) ?_ ?_ ?_;(focus((try simp(disch:=omega) only[inj,R8,S6,R7,RV,RP,RS,Se,go_sem,aa,q3,R3])<;>(try omega)<;>fail));(focus((try simp(disch:=omega) only[inj,R8,S6,R7,RV,RP,RS,Se,go_sem,aa,q3,R3])<;>(try omega)<;>(try decide)<;>fail)))|(refine cN [2] (b6) ?_ ?_ ?_;(focus((try simp(disch:=omega) only[inj,R8,S6,R7,RV,RP,RS,Se,go_sem,aa,q3,R3])<;>(try omega)<;>fail));(focus((try simp(disch:=omega) only[inj,R8,S6,R7,RV,RP,RS,Se,go_sem,aa,q3,R3])<;>(try omega)<;>(try decide)<;>fail)))|(refine cN [2] (b7) ?_ ?_ ?_;(focus((try simp(disch:=omega) only[inj,R8,S6,R7,RV,RP,RS,Se,go_sem,aa,q3,R3])<;>(try omega)<;>fail));(focus((try simp(disch:=omega) only[inj,R8,S6,R7,RV,RP,RS,Se,go_sem,aa,q3,R3])<;>(try omega)<;>(try decide)<;>fail)))|(refine cN [2] (b8) ?_ ?_ ?_;(focus((try simp(disch:=omega) only[inj,R8,S6,R7,RV,RP,RS,Se,go_sem,aa,q3,R3])<;>(try omega)<;>fail));(focus((try simp(disch:=omega) only[inj,R8,S6,R7,RV,RP,RS,Se,go_sem,aa,q3,R3])<;>(try omega)<;>(try decide)<;>fail)))|(refine cN [2] (b9) ?_ ?_ ?_;(focus((try simp(disch:=omega) only[inj,R8,S6,R7,RV,RP,RS,Se,go_sem,aa,q3,R3])<;>(try omega)<;>fail));(focus((try simp(disch:=omega) only[inj,R8,S6,R7,RV,RP,RS,Se,go_sem,aa,q3,R3])<;>(try omega)<;>(try decide)<;>fail))))<;>(try simp(disch:=omega) only[go_sem,aa,q3,R3])<;>(repeat' with_reducible refine Sg ?_ ?_)<;>(try(with_reducible refine hK _ ?_;clear hK K)))
|omega)
 ·rw[qq (Lh r hc)];(refine zF rfl ?_ ?_ ?_ ?_;(iterate 3 (focus((try simp(disch:=omega) only[go_sem,aa,tz])<;>(try omega)<;>fail)));(try simp(disch:=omega) only[go_sem,aa,tz,I,B,S,zj]))
 all_goals(have hk:d.k1.t=[84]:=by assumption)
 ·cases hb:d.k2.bad with
  |true=>rw[qq (MS r hk hb)];(refine zF rfl ?_ ?_ ?_ ?_;(iterate 3 (focus((try simp(disch:=omega) only[go_sem,aa,tz])<;>(try omega)<;>fail)));(try simp(disch:=omega) only[go_sem,aa,tz,I,B,S,zj]))
  | false=>
    obtain⟨a1,a2,a3⟩:=E4 r hk hb;rw[tl a1 (.inl (by rw[hb] at hc;rw[←a2];rcases hc with hc|hc;cases hc;omega))];(refine zF rfl ?_ ?_ ?_ ?_;(iterate 3 (focus((try simp(disch:=omega) only[go_sem,aa,tz])<;>(try omega)<;>fail)));(try simp(disch:=omega) only[go_sem,aa,tz,I,B,S,zj]))
 all_goals(have hb:d.k2.bad=false∧(numN d.k2.t:Int)≤1024:=by assumption)
 all_goals obtain⟨a1,a2,a3⟩:=E4 r hk hb.1
 ·rw[tl a1 (.inr (KL r hk hb.1 hc))];(refine zF rfl ?_ ?_ ?_ ?_;(iterate 3 (focus((try simp(disch:=omega) only[go_sem,aa,tz])<;>(try omega)<;>fail)));(try simp(disch:=omega) only[go_sem,aa,tz,I,B,S,zj]))
 all_goals(have h4:d.k4.bad=false:=by assumption)
 all_goals obtain⟨x1,x2,x3⟩:=KJ r hk hb.1 h4
 ·omega
 all_goals(have a4:¬ dU s:=fun h=>by unfold dU at h;omega)
 all_goals(have ee1:lY (List.take (3+numN d.k2.t) s)=lY (List.take (sN s+3) s):=by rw[a2,TD])
 all_goals(have ee2:numN d.k4.t=numN (List.take 4 (List.drop (sN s+3) s)):=by rw[x3])
 ·rw[yZ a1 a4 (by unfold gF;omega)];(refine zF rfl ?_ ?_ ?_ ?_;(iterate 3 (focus((try simp(disch:=omega) only[go_sem,aa,tz])<;>(try omega)<;>fail)));(try simp(disch:=omega) only[go_sem,aa,tz,I,B,S,zj]))
 all_goals(have a5:¬ gF s:=fun h=>by unfold gF at h;omega)
 ·have hno:¬ dK (sB s):=fun h=>by
   obtain⟨u1,u2⟩:=Jj r x2 h;rcases hc with hc|hc
   ·rw[u1] at hc;cases hc
   ·exact hc u2
  rw[qM a1 a4 a5 hno];(refine zF rfl ?_ ?_ ?_ ?_;(iterate 3 (focus((try simp(disch:=omega) only[go_sem,aa,tz])<;>(try omega)<;>fail)));(try simp(disch:=omega) only[go_sem,aa,tz,I,B,S,zj]))
 all_goals(have h9:d.j9.bad=false∧d.j9.s=[]:=by assumption)
 all_goals obtain⟨y1,y2⟩:=Nm r x2 h9.1 h9.2
 ·have hg2:aT (dZ (sB s))≠0:=y2▸hc
  rw[yK a1 a4 a5 y1 hg2,←y2];(refine zF rfl ?_ ?_ ?_ ?_;(iterate 3 (focus((try simp(disch:=omega) only[go_sem,aa,tz,v8])<;>(try omega)<;>fail)));(try simp(disch:=omega) only[go_sem,aa,tz,v8,I,B,S,zj]))
 ·have hg2:aT (dZ (sB s))=0:=y2▸hc
  rw[va a1 a4 a5 y1 hg2,←y2];(refine zF rfl ?_ ?_ ?_ ?_;(iterate 3 (focus((try simp(disch:=omega) only[go_sem,aa,v8,Si,a2])<;>(try omega)<;>fail)));(try simp(disch:=omega) only[go_sem,aa,v8,Si,a2,I,B,S,zj]))
def fy(l:List Int):Prop:=∀ k,k+1<l.length→l.getD k default<l.getD (k+1) default
theorem fh{l:List Int}(h:fy l){i:Nat}:∀{j:Nat},i<j→j<l.length→l.getD i default<l.getD j default
 |0,h1,_=>by omega
 | j+1,h1,h2=>by
   by_cases e:i=j
   ·subst e;exact h i h2
   ·exact Wg (fh h (by omega) (by omega)) (h j h2)
def bf(l:List Int)(key:Int):Nat:=l.findIdx fun x=>!decide (x<key)
theorem qR{l:List Int}{key:Int}{i:Nat}(h0:i≤l.length)(h1:∀ k,k<i→l.getD k default<key)(h2:i<l.length→¬ l.getD i default<key):bf l key=i:=by
 unfold bf
 by_cases e:i<l.length
 ·rw[Vs e]
  have h3:=h2 e;rw[Ru,Rv e] at h3;refine⟨by simpa using h3,fun j hj=>?_⟩;have h4:=h1 j hj;rw[Ru,Rv (by omega)] at h4;simpa using h4
 ·have e2:i=l.length:=by omega
  subst e2;rw[Wd];intro x hx;obtain⟨j,hj,rfl⟩:=Ta hx;have h4:=h1 j hj;rw[Ru,Rv hj] at h4;simpa using h4
theorem DI{l:List Int}{key:Int}{i:Nat}(hr:fy l)(h1:∀ k,k<i→l.getD k default<key)(h2:i<l.length→¬ l.getD i default<key):key∈l↔i<l.length∧l.getD i default=key:=by
 rw[aM l default];constructor
 ·rintro⟨k,hk,e⟩
  have a:¬ k<i:=fun hki=>by have:=h1 k hki;omega
  have b:¬ i<k:=fun hik=>by have:=fh hr hik hk;rw[e] at this;exact h2 (by omega) this
  have c:i=k:=by omega
  subst c;exact⟨hk,e⟩
 ·rintro⟨h,e⟩;exact⟨i,h,e⟩
theorem yc(l:List Int)(key:Int)(h:l.length*8≤140737488351232)(hr:fy l) :
  ab Tryz.prog [] 69 [.d (.sl 1 (l.map a8)),I key] (ret (.tup [I (bf l key),B (decide (key∈l))])):=by
 refine zJ Tryz.func69 Tryz.ntmps69 Tryz.results69 ?_;simp only[go_sem]
 (refine zW qw zn X5 (z1 ?_)<;>(repeat with_reducible intro hc))
 refine WW (ι:=Nat×Nat) (fun v=>v.1≤v.2∧v.2≤l.length∧(∀ k,k<v.1→l.getD k default<key)∧(v.2<l.length→¬ l.getD v.2 default<key)) (fun v=>v.2-v.1) [0,1,6] (fun v=>[(7,I v.1),(8,I v.2)]) (0,l.length) ?_ (by simp(disch:=omega) only[go_sem,aa,SH]) ?_
 ·exact⟨by simp,by simp,fun k hk=>by simp at hk,fun k=>by simp at k⟩
 intro⟨i,j⟩ ⟨h1,h2,h3,h4⟩;simp only at h1 h2 h3 h4;simp only[go_sem]
 (repeat' first
|(with_reducible refine AR.f ?_)
|refine bI (by decide) ?_
|(with_reducible refine AWP.cond rfl ?_ ?_<;>intro hc<;>(try simp only[hcs,RN,RY,RZ] at hc))
|(refine bL fun Kk hKk=>(cm df Tryz.func123 rfl (by kernel_rfl) (by simp[Tryz.ntmps123]) ?_);simp only[Tryz.ntmps123,Tryz.results123,Sx,gC,R1,RD,Nat.reduceAdd,Ry,RQ,go_sem])
|(refine bL fun Kk hKk=>(cm df Tryz.func189 rfl (by kernel_rfl) (by simp[Tryz.ntmps189]) ?_);simp only[Tryz.ntmps189,Tryz.results189,Sx,gC,R1,RD,Nat.reduceAdd,Ry,RQ,go_sem])
|(refine bL fun Kk hKk=>(cm df Tryz.func124 rfl (by kernel_rfl) (by simp[Tryz.ntmps124]) ?_);simp only[Tryz.ntmps124,Tryz.results124,Sx,gC,R1,RD,Nat.reduceAdd,Ry,RQ,go_sem])
|((first|((first|(with_reducible first|refine zR ?_));intro K hK)|(refine aend_in (v:=?_) hKk (by first|exact .inl rfl|exact .inr rfl) ?_ ?_ ?_;rotate_left;(focus((try simp(disch:=omega) only[go_sem,aa,lP])<;>(try omega)<;>fail));(focus((try simp(disch:=omega) only[go_sem,aa,lP])<;>(first|done|exact rfl)));clear hKk Kk)|((first|(with_reducible refine aunder_i ?_ ?_<;>intro hg)|with_reducible intro hg)<;>(first|(exfalso;simp at hg;done)|(have hg':=hg;(try simp only[hcs,RN,RY,RZ] at hg');(try simp only[hg])))))<;>(try simp(disch:=omega) only[go_sem,aa,lP])<;>(repeat' with_reducible refine Sg ?_ ?_)<;>(try(with_reducible refine hK _ ?_;clear hK K)))
|omega)
 ·refine⟨((i+j)/2+1,j),⟨by simp only;omega,h2,fun k hk=>?_,h4⟩,by simp only;omega,?_⟩
  ·by_cases e:k=(i+j)/2
   ·rw[e];exact hc
   ·exact Wg (fh (j:=(i+j)/2) hr (by simp only at hk;omega) (by omega)) hc
  exact zSm X5
 ·refine⟨(i,(i+j)/2),⟨by simp only;omega,by simp only;omega,h3,fun _=>Int.not_lt.2 hc⟩,by simp only;omega,?_⟩
  exact zSm X5
 all_goals
  have e0:i=j:=by omega
  subst e0;have e1:bf l key=i:=qR (by omega) h3 h4;have e2:key∈l↔i<l.length∧l.getD i default=key:=DI hr h3 h4
  (refine zE2 @e1 ?_;(try simp(disch:=omega) only[go_sem,aa,e1,I,B,S,zj]))
  simp only[e2];simp at hg;simp
def bsI(lt:Nat→Bool):Nat→Nat→Nat→Nat
 |0,i,_=>i
 |f+1,i,j=>if i<j then(if lt ((i+j)/2)=true then bsI lt f ((i+j)/2+1) j else bsI lt f i ((i+j)/2)) else i
def ltN(ns:List (List UInt8))(key:List UInt8)(k:Nat):Bool:=decide (ns.getD k []<key)
def bsN(ns:List (List UInt8))(key:List UInt8):Nat:=bsI (ltN ns key) ns.length 0 ns.length
def jC(ns:List (List UInt8))(key:List UInt8):Bool:=decide (bsN ns key<ns.length∧ns.getD (bsN ns key) []=key)
theorem Fb{lt:Nat→Bool}{f i:Nat}:bsI lt f i i=i:=by
 cases f with
 |zero=>rfl
 |succ f=>rw[bsI,Rw (by omega)]
theorem J5{lt:Nat→Bool}{f i j:Nat}(h:i<j)(h2:lt ((i+j)/2)=true):bsI lt (f+1) i j=bsI lt f ((i+j)/2+1) j:=by rw[bsI,Rx h,Rx h2]
theorem Lc{lt:Nat→Bool}{f i j:Nat}(h:i<j)(h2:¬ lt ((i+j)/2)=true):bsI lt (f+1) i j=bsI lt f i ((i+j)/2):=by rw[bsI,Rx h,Rw h2]
theorem qH{ns:List (List UInt8)}{key:List UInt8}(hr:aE ns):∀{f i j:Nat},i≤j→j≤ns.length→j-i≤f→(∀ k,k<i→ns.getD k []<key)→(j<ns.length→¬ ns.getD j []<key)→bsI (ltN ns key) f i j=place ns key
 | 0,i,j,h1,h2,h3,h4,h5=>by
   rw[bsI];rw[show j=i from by omega] at h5;exact(go (by omega) h4 h5).symm
 | f + 1,i,j,h1,h2,h3,h4,h5=>by
   by_cases h:i<j
   ·by_cases hc:ltN ns key ((i+j)/2)=true
    ·rw[J5 h hc]
     unfold ltN at hc;rw[RB] at hc;refine qH hr (by omega) h2 (by omega) (fun k hk=>?_) h5
     by_cases e:k=(i+j)/2
     ·rw[e];exact hc
     ·exact S9 (aV (j:=(i+j)/2) hr (by omega) (by omega)) hc
    ·rw[Lc h hc]
     unfold ltN at hc;rw[RB] at hc;exact qH hr (by omega) (by omega) (by omega) h4 fun _=>hc
   ·rw[show j=i from by omega] at h5 ⊢
    rw[Fb];exact(go (by omega) h4 h5).symm
theorem xy{ns:List (List UInt8)}{key:List UInt8}(hr:aE ns):bsN ns key=place ns key:=
 qH hr (RI _) (RE _) (by omega) (fun k hk=>by omega) (fun h=>by omega)
theorem oW{ns:List (List UInt8)}{key:List UInt8}(hr:aE ns):jC ns key=decide (key∈ns):=by
 unfold jC;rw[xy hr,V7];constructor
 ·rintro⟨h1,h2⟩;rw[←h2];exact bs _ _ h1
 ·exact ag hr
theorem Cm{ns:List (List UInt8)}{key:List UInt8}(h:jC ns key=true):key∈ns:=by
 unfold jC at h;rw[RB] at h
 have:=bs ns [] h.1;rwa[h.2] at this
theorem Fw(l:List XG)(key:List UInt8)(h:l.length*88≤140737488351232) :
  ab Tryz.prog [] 130 [.d (.sl 9 (l.map XG.row)),S key,.d (.sc (.func (.func 131) #[] #[]))]
   (ret (.tup [I (bsN (l.map XG.path) key),B (jC (l.map XG.path) key)])):=by
 have hn:∀ k,(l.map XG.path).getD k []=(l.getD k default).path:=fun k=>cV XG.path l k default
 refine zJ Tryz.func130 Tryz.ntmps130 Tryz.results130 ?_;simp only[go_sem]
 (refine zW qw zn X5 (z1 ?_)<;>(repeat with_reducible intro hc))
 refine WW (ι:=Nat×Nat×Nat) (fun v=>v.2.1≤v.2.2∧v.2.2≤l.length∧v.2.2-v.2.1≤v.1∧bsI (ltN (l.map XG.path) key) v.1 v.2.1 v.2.2=bsN (l.map XG.path) key) (fun v=>v.1) [0,1,2,8] (fun v=>[(9,I v.2.1),(10,I v.2.2)]) (l.length,0,l.length) ?_ (by simp(disch:=omega) only[go_sem,aa,SH]) ?_
 ·refine⟨by simp,by simp,by simp,?_⟩
  unfold bsN;simp only[RC]
 intro⟨f,i,j⟩ ⟨h1,h2,h3,h4⟩;simp only at h1 h2 h3 h4;simp only[go_sem]
 (repeat' first
|(with_reducible refine AR.f ?_)
|refine bI (by decide) ?_
|(with_reducible refine AWP.cond rfl ?_ ?_<;>intro hc<;>(try simp only[hcs,RN,RY,RZ] at hc))
|((first|((first|(with_reducible first|refine zR ?_));intro K hK)|((first|refine acallH_sc (treeCmp_c _ _) rfl rfl ?_ ?_ ?_|refine acallQ_sc (treeCmp_c _ _) rfl rfl ?_ ?_ ?_);iterate 2 (focus((try simp(disch:=omega) only[go_sem,aa,lP])<;>(try omega)<;>fail)))|((first|refine zX (treeCmp_c _ _) rfl ?_ ?_);(focus((try simp(disch:=omega) only[go_sem,aa,lP])<;>(try omega)<;>fail)))|((first|(with_reducible refine aunder_i ?_ ?_<;>intro hg)|with_reducible intro hg)<;>(first|(exfalso;simp at hg;done)|(have hg':=hg;(try simp only[hcs,RN,RY,RZ] at hg');(try simp only[hg])))))<;>(try simp(disch:=omega) only[go_sem,aa,lP])<;>(repeat' with_reducible refine Sg ?_ ?_)<;>(try(with_reducible refine hK _ ?_;clear hK K)))
|omega)
 ·rw[ky] at hc
  obtain⟨g,rfl⟩:∃ g,f=g+1:=⟨f-1,by omega⟩;have hlt:ltN (l.map XG.path) key ((i+j)/2)=true:=by unfold ltN;rw[RB,hn];exact hc
  rw[J5 (by omega) hlt] at h4;refine⟨(g,(i+j)/2+1,j),⟨by simp only;omega,h2,by simp only;omega,h4⟩,by simp only;omega,?_⟩;exact zSm X5
 ·have hc2:¬ o9 (l.getD ((i+j)/2) default).path key<0:=by omega
  rw[ky,←hn] at hc2;obtain⟨g,rfl⟩:∃ g,f=g+1:=⟨f-1,by omega⟩;have hlt:¬ ltN (l.map XG.path) key ((i+j)/2)=true:=by unfold ltN;rw[RB];exact hc2
  rw[Lc (by omega) hlt] at h4;refine⟨(g,i,(i+j)/2),⟨by simp only;omega,by simp only;omega,by simp only;omega,h4⟩,by simp only;omega,?_⟩;exact zSm X5
 all_goals
  have e0:i=j:=by omega
  subst e0;rw[Fb] at h4
  (refine zE2 (zx @h4 @jC.eq_1) ?_;(try simp(disch:=omega) only[go_sem,aa,h4,jC,I,B,S,zj]))
  simp only[←h4,jC,RC,hn,y8];simp at hg;simp;try omega
def jE(l:List AWatch)(w:AWatch):List AWatch×Int:=
 if w.kind≠1∧w.kind≠2 then([],4) else if ¬ br w.path=true then([],2) else if w.session<1∨2147483647<w.session then([],3)
 else if w∈l then(l,0) else if 400≤l.length then([],6) else(l++[w],0)
def hI(l:List AWatch)(s:Int):List AWatch:=l.filter fun w=>decide (w.session≠s)
def Dt(l:List AWatch)(w:AWatch):Int:=if w∈l then(l.findIdx (fun x=>decide (x=w)):Nat) else -1
theorem Mu{l:List AWatch}{w:AWatch}{k:Nat}(hk:k<l.length)(h:l.getD k default=w)(hno:∀ j,j<k→l.getD j default≠w):Dt l w=k:=by
 have hg:∀ j,(hj:j<l.length)→l.getD j default=l[j]:=fun j hj=>by rw[Ru,Rv hj];rfl
 unfold Dt;rw[Rx (by rw[←h,hg k hk];exact So hk)];congr 1;rw[Vs hk];refine⟨by rw[RB,←hg k hk];exact h,fun j hj=>?_⟩;rw[RT,←hg j (by omega)];exact hno j hj
theorem EM{l:List AWatch}{w:AWatch}(hno:∀ j,j<l.length→l.getD j default≠w):Dt l w=-1∧¬ w∈l:=by
 have h:¬ w∈l:=fun hm=>by obtain⟨j,hj,e⟩:=Ta hm;exact hno j hj (by rw[Ru,Rv hj];exact e)
 exact⟨by unfold Dt;rw[Rw h],h⟩
theorem Nr(l:List AWatch)(w:AWatch):decide (0≤Dt l w)=decide (w∈l):=by
 unfold Dt;split
 ·rw[decide_eq_true (by omega)];symm;rw[RB];assumption
 ·rw[RM (by omega)];symm;rw[RT];assumption
theorem Jb(l:List AWatch)(w:AWatch)(h:l.length*32≤140737488351232):ab Tryz.prog [] 231 [.d (.sl 3 (l.map AWatch.row)),w.av] (ret (I (Dt l w))):=by
 refine zJ Tryz.func231 Tryz.ntmps231 Tryz.results231 ?_;simp only[go_sem]
 (refine zW qw zn X5 (z1 ?_)<;>(repeat with_reducible intro hc))
 refine WQ (ι:=Nat) (fun k=>k≤l.length∧∀ j,j<k→l.getD j default≠w) (fun k=>l.length-k) [0,3,7] (fun k=>[(8,I k)]) (fun k=>[.cells [I w.session,I w.kind,.d (.str w.path)]]) 0 ?_ ?_ ?_
 ·exact⟨by omega,by omega⟩
 ·simp only[go_sem];exact zSm X5
 intro k ⟨hk,hk2⟩;simp only[go_sem]
 (refine zW qw zn @AWatch.rgetD (z3 ?_ ?_ ?_)<;>(repeat with_reducible intro hc))
 ·rw[Mu (by assumption) hc.symm hk2];exact zEe X5
 ·refine⟨k+1,⟨by omega,fun j hj=>?_⟩,by omega,?_⟩
  ·by_cases e:j=k
   ·subst e;exact fun h=>hc h.symm
   ·exact hk2 j (by omega)
  exact zSm X5
 ·rw[(EM (fun j hj=>hk2 j (by omega))).1];exact zEe X5
theorem AW(l:List AWatch)(w:AWatch)(h:l.length*32≤140737488351232):ab Tryz.prog [] 179 [.d (.sl 3 (l.map AWatch.row)),w.av] (ret (B (decide (w∈l)))):=by
 refine zJ Tryz.func179 Tryz.ntmps179 Tryz.results179 ?_;simp only[go_sem]
 (refine zW qw (z1 (Jb l w h)) X5 (z1 ?_)<;>(repeat with_reducible intro hc))
 exact zEe @Nr
theorem lb(l:List AWatch)(s:Int)(k:Nat)(h:k<l.length):hI (l.take (k+1)) s=if(l.getD k default).session≠s then hI (l.take k) s++[l.getD k default] else hI (l.take k) s:=by
 have:l.take (k+1)=l.take k++[l.getD k default]:=aN l k h;rw[this];unfold hI;rw[Sn];split
 ·rw[SQ (by simpa using(by assumption:_≠_))];rfl
 ·rw[Sr (by simpa using(by assumption:¬ _≠_)),SR,R5]
theorem xq(s:Int):hI [] s=[]:=rfl
theorem OW(l:List AWatch)(s:Int)(h:l.length*32≤140737488351232):ab Tryz.prog [] 186 [.d (.sl 3 (l.map AWatch.row)),I s] (ret (.d (.sl 3 ((hI l s).map AWatch.row)))):=by
 refine zJ Tryz.func186 Tryz.ntmps186 Tryz.results186 ?_;simp only[go_sem]
 (refine zW qw zn X5 (z1 ?_)<;>(repeat with_reducible intro hc))
 refine WR (WT 5 3 rfl) ?_;simp only[go_sem];refine WQ (ι:=Nat) (fun k=>k≤l.length) (fun k=>l.length-k) [1,8,9] (fun k=>[(10,I k),(5,.osl 0 3 0 (hI (l.take k) s).length)]) (fun k=>[.rows 3 ((hI (l.take k) s).map AWatch.row)]) 0 ?_ ?_ ?_
 ·omega
 ·simp only[go_sem,xq];exact zSm X5
 intro k hk;have hol:(hI (l.take k) s).length≤k:=RW (SK _ _) (S5 _ _);simp only[go_sem]
 (refine zW qw zn (zx @AWatch.rgetD (zx @ax @AWatch.rsnoc)) (z3 ?_ ?_ ?_)<;>(repeat with_reducible intro hc))
 ·refine⟨k+1,by omega,by omega,?_⟩
  rw[lb _ _ _ (by assumption),Rx hc];exact zFr [3] @List.length_append.{0}
 ·refine⟨k+1,by omega,by omega,?_⟩
  rw[lb _ _ _ (by assumption),Rw (by simpa using hc)];exact zFr [0] X5
 ·have e:k=l.length:=by omega
  subst e;simp only[RU];exact zEe X5
theorem D8(l:List AWatch)(s:Int)(h:l.length*32≤140737488351232):ab Tryz.prog [] 159 [.d (.sl 3 (l.map AWatch.row)),I s] (ret (.d (.sl 3 ((hI l s).map AWatch.row)))):=by
 refine zJ Tryz.func159 Tryz.ntmps159 Tryz.results159 ?_;simp only[go_sem]
 (refine zW qw zn X5 (z1 ?_)<;>(repeat with_reducible intro hc))
 refine WR (WT 5 3 rfl) ?_;simp only[go_sem];refine WQ (ι:=Nat) (fun k=>k≤l.length) (fun k=>l.length-k) [1,8,9] (fun k=>[(10,I k),(5,.osl 0 3 0 (hI (l.take k) s).length)]) (fun k=>[.rows 3 ((hI (l.take k) s).map AWatch.row)]) 0 ?_ ?_ ?_
 ·omega
 ·simp only[go_sem,xq];exact zSm X5
 intro k hk;have hol:(hI (l.take k) s).length≤k:=RW (SK _ _) (S5 _ _);simp only[go_sem]
 (refine zW qw zn (zx @AWatch.rgetD (zx @ax @AWatch.rsnoc)) (z3 ?_ ?_ ?_)<;>(repeat with_reducible intro hc))
 ·refine⟨k+1,by omega,by omega,?_⟩
  rw[lb _ _ _ (by assumption),Rx hc];exact zFr [3] @List.length_append.{0}
 ·refine⟨k+1,by omega,by omega,?_⟩
  rw[lb _ _ _ (by assumption),Rw (by simpa using hc)];exact zFr [0] X5
 ·have e:k=l.length:=by omega
  subst e;simp only[RU];exact zEe X5
theorem xS{l:List AWatch}{w:AWatch}(h:w.kind≠1∧w.kind≠2):jE l w=([],4):=by unfold jE;rw[Rx h]
theorem wj{l:List AWatch}{w:AWatch}(h1:¬ (w.kind≠1∧w.kind≠2))(h2:br w.path=false):jE l w=([],2):=by unfold jE;rw[Rw h1,Rx (by rw[h2];decide)]
theorem xm{l:List AWatch}{w:AWatch}(h1:¬ (w.kind≠1∧w.kind≠2))(h2:br w.path=true):jE l w=if w.session<1∨2147483647<w.session then([],3) else if w∈l then(l,0) else if 400≤l.length then([],6) else(l++[w],0):=by unfold jE;rw[Rw h1,Rw (by rw[h2];decide)]
theorem nJ(l:List AWatch)(w:AWatch):l.map AWatch.row++[w.row]=(l++[w]).map AWatch.row:=by rw[Sb];rfl
theorem Qg(l:List AWatch)(w:AWatch)(h:l.length*32≤140737488351232)(hw:okS w.path):ab Tryz.prog [] 111 [.d (.sl 3 (l.map AWatch.row)),w.av] (ret (.tup [.d (.sl 3 ((jE l w).1.map AWatch.row)),I (jE l w).2])):=by
 refine zJ Tryz.func111 Tryz.ntmps111 Tryz.results111 ?_;simp only[go_sem]
 (refine zW qw (z2 (good_c w.path hw) (AW l w h)) X5 (zc ?_ (zc ?_ (z4 ?_ ?_ ?_ ?_)))<;>(repeat with_reducible intro hc))
 ·rw[xS hc];exact zEe X5
 ·rw[wj (by omega) hc];exact zEe X5
 all_goals(have hk:¬ (w.kind≠1∧w.kind≠2):=by omega)
 all_goals rw[xm hk (by assumption)]
 ·rw[Rx hc];exact zEe X5
 all_goals rw[Rw (by omega)]
 ·rw[Rx hc];exact zEe X5
 all_goals rw[Rw (by assumption)]
 ·rw[Rx (by omega)];exact zEe X5
 ·rw[Rw (by omega)];(refine zE2 (zx @AWatch.rsnoc @nJ) ?_;(try simp(disch:=omega) only[go_sem,aa,AWatch.rsnoc,nJ,I,B,S,zj]))
  exact Or.inl (Rz (by simp))
theorem FU(l:List AWatch)(w:AWatch)(h:l.length*32≤140737488351232)(hw:w.path.length≤1048576):ab Tryz.prog [] 98 [.d (.sl 3 (l.map AWatch.row)),w.av] (ret (.tup [.d (.sl 3 ((jE l w).1.map AWatch.row)),I (jE l w).2])):=by
 refine zJ Tryz.func98 Tryz.ntmps98 Tryz.results98 ?_;simp only[go_sem]
 (refine zW qw (z1 (bu w.path hw)) X5 (z4 ?_ ?_ ?_ ?_)<;>(repeat with_reducible intro hc))
 ·rw[xS (by omega)];exact zEe X5
 ·rw[wj (by omega) hc];exact zEe X5
 all_goals(have hk:¬ (w.kind≠1∧w.kind≠2):=by omega)
 all_goals rw[xm hk (by assumption)]
 ·rw[Rx (by omega)];exact zEe X5
 rw[Rw (by omega)];refine WQ (ι:=Nat) (fun k=>k≤l.length∧∀ j,j<k→l.getD j default≠w) (fun k=>l.length-k) [0,3,6,31,32] (fun k=>[(33,I k)]) (fun k=>[.cells [I w.session,I w.kind,.d (.str w.path)],.rows 3 (l.map AWatch.row)]) 0 ?_ ?_ ?_
 ·exact⟨by omega,by omega⟩
 ·simp only[go_sem];exact zSm X5
 intro k ⟨hk1,hk2⟩;simp only[go_sem]
 (refine zW qw zn @AWatch.rgetD (z4 ?_ ?_ ?_ ?_)<;>(repeat with_reducible intro hc))
 ·have hm:w∈l:=by rw[←hc];exact bs l default (by assumption)
  rw[Rx hm];exact zEe X5
 ·refine⟨k+1,⟨by omega,fun j hj=>?_⟩,by omega,?_⟩
  ·by_cases e:j=k
   ·subst e;exact hc
   ·exact hk2 j (by omega)
  exact zFr [0,1] X5
 all_goals rw[Rw (EM (fun j hj=>hk2 j (by omega))).2]
 ·rw[Rx (by omega)];exact zEe X5
 ·rw[Rw (by omega)];(refine zE2 (zx @AWatch.rsnoc @nJ) ?_;(try simp(disch:=omega) only[go_sem,aa,AWatch.rsnoc,nJ,I,B,S,zj]))
  exact Or.inl (Rz (by simp))
theorem nG{s:List UInt8}(h:br s=true):s.length≤200:=by
 unfold br at h;rw[SC,RB,RK,RB] at h;rcases h with h|h
 ·subst h;decide
 ·exact h.1
theorem oU{s:List UInt8}(h:aU s=true):s.length≤40:=by
 unfold aU at h;rw[RK,RK,RB] at h
 have:=h.2.2;omega
def jq(dir name:List UInt8):List UInt8:=if dir=[47] then 47::name else dir++47::name
def dg(dir name:List UInt8):List UInt8×Int:=if br dir=true∧aU name=true then(if 200<(jq dir name).length then([],1) else(jq dir name,0)) else([],2)
theorem kB{dir name:List UInt8}(h:¬ (br dir=true∧aU name=true)):dg dir name=([],2):=by unfold dg;rw[Rw h]
theorem oQ{dir name:List UInt8}(h1:br dir=true)(h2:aU name=true)(h:200<(jq dir name).length):dg dir name=([],1):=by unfold dg;rw[Rx ⟨h1,h2⟩,Rx h]
theorem ue{dir name:List UInt8}(h1:br dir=true)(h2:aU name=true)(h:(jq dir name).length≤200):dg dir name=(jq dir name,0):=by unfold dg;rw[Rx ⟨h1,h2⟩,Rw (by omega)]
theorem gN(name:List UInt8):jq [47] name=47::name:=by unfold jq;rw[Rx rfl]
theorem kg{dir:List UInt8}(h:¬ dir=[47])(name:List UInt8):jq dir name=dir++47::name:=by unfold jq;rw[Rw h]
theorem Kj(dir name:List UInt8)(hd:okS dir)(hn:okS name):ab Tryz.prog [] 227 [S dir,S name] (ret (.tup [S (dg dir name).1,I (dg dir name).2])):=by
 have hn':=hn;unfold okS at hn'
 by_cases h1:br dir=true
 case neg=>
  rw[kB (fun h=>h1 h.1)];refine zJ Tryz.func227 Tryz.ntmps227 Tryz.results227 ?_;simp only[go_sem]
  (refine zW qw (z1 ((good_c dir hd).re (congrArg B (Te h1)))) X5 (z1 ?_)<;>(repeat with_reducible intro hc))
  exact zEe X5
 by_cases h2:aU name=true
 case neg=>
  rw[kB (fun h=>h2 h.2)];refine zJ Tryz.func227 Tryz.ntmps227 Tryz.results227 ?_;simp only[go_sem]
  (refine zW qw (z2 ((good_c dir hd).re (by rw[h1])) ((iC name hn).re (congrArg B (Te h2)))) X5 (z1 ?_)<;>(repeat with_reducible intro hc))
  exact zEe X5
 have g1:=nG h1;have g2:=oU h2;refine zJ Tryz.func227 Tryz.ntmps227 Tryz.results227 ?_;simp only[go_sem]
 (refine zW qw (z2 ((good_c dir hd).re (by rw[h1])) ((iC name hn).re (by rw[h2]))) (zx @List.append_assoc.{0} (zx @List.cons_append.{0} (zx @List.nil_append.{0} @List.singleton_append.{0}))) (z3 ?_ ?_ ?_)<;>(repeat with_reducible intro hc))
 all_goals rcases Decidable.em (dir=[47]) with e|e
 all_goals first
  |(exfalso;simp_all;done)
  |(have hl:200<(jq dir name).length:=by(first|rw[e,gN,RD]|rw[kg e,Ry,RD])<;>(try simp[e] at hc)<;>omega
    rw[oQ h1 h2 hl];exact zEe X5)
  |(have hl:(jq dir name).length≤200:=by(first|rw[e,gN,RD]|rw[kg e,Ry,RD])<;>(try simp[e] at hc)<;>omega
    rw[ue h1 h2 hl];(first|rw[e,gN]|rw[kg e]);exact zEe (zx @List.cons_append.{0} @List.nil_append.{0}))
theorem tA(dir name:List UInt8)(hd:dir.length≤1048576)(hn:okS name):ab Tryz.prog [] 172 [S dir,S name] (ret (.tup [S (dg dir name).1,I (dg dir name).2])):=by
 have hn':=hn;unfold okS at hn'
 by_cases h1:br dir=true
 case neg=>
  rw[kB (fun h=>h1 h.1)];refine zJ Tryz.func172 Tryz.ntmps172 Tryz.results172 ?_;simp only[go_sem]
  (refine zW qw (z1 ((bu dir hd).re (congrArg B (Te h1)))) X5 (z1 ?_)<;>(repeat with_reducible intro hc))
  exact zEe X5
 by_cases h2:aU name=true
 case neg=>
  rw[kB (fun h=>h2 h.2)];refine zJ Tryz.func172 Tryz.ntmps172 Tryz.results172 ?_;simp only[go_sem]
  (refine zW qw (z2 ((bu dir hd).re (by rw[h1])) ((ref_named_c name hn).re (congrArg B (Te h2)))) X5 (z1 ?_)<;>(repeat with_reducible intro hc))
  exact zEe X5
 have g1:=nG h1;have g2:=oU h2;refine zJ Tryz.func172 Tryz.ntmps172 Tryz.results172 ?_;simp only[go_sem]
 (refine zW qw (z2 ((bu dir hd).re (by rw[h1])) ((ref_named_c name hn).re (by rw[h2]))) (zx @List.append_assoc.{0} (zx @List.cons_append.{0} (zx @List.nil_append.{0} @List.singleton_append.{0}))) (z4 ?_ ?_ ?_ ?_)<;>(repeat with_reducible intro hc))
 all_goals rcases Decidable.em (dir=[47]) with e|e
 all_goals first
  |(exfalso;simp_all;done)
  |(have hl:200<(jq dir name).length:=by(first|rw[e,gN,RD]|rw[kg e,Ry,RD])<;>(try simp[e] at hc)<;>omega
    rw[oQ h1 h2 hl];exact zEe X5)
  |(have hl:(jq dir name).length≤200:=by(first|rw[e,gN,RD]|rw[kg e,Ry,RD])<;>(try simp[e] at hc)<;>omega
    rw[ue h1 h2 hl];(first|rw[e,gN]|rw[kg e]);exact zEe (zx @List.cons_append.{0} @List.nil_append.{0}))
theorem wU(j n:Nat):lm (j+1) n=dig (n/10^j)::lm j n:=by
 unfold lm;rw[List.range_succ_eq_map,Tw,WI];congr 1;refine Vz fun i _=>?_
 show dig (n/10^(j+1-1-(i+1)))=dig (n/10^(j-1-i));rw[show j+1-1-(i+1)=j-1-i from by omega]
theorem pD(k n:Nat):(lm k n).length=k:=by simp[lm]
theorem wo{j n:Nat}(h:n/10^j=0):∀ m,lm (j+m) n=List.replicate m 48++lm j n
 |0=>rfl
 | m+1=>by
   have e:n/10^(j+m)=0:=by rw[Nat.pow_add,←TH,h,Nat.zero_div]
   rw[←SL,wU,wo h m,e,Vy];rfl
def ru(name:List UInt8)(n:Nat):List UInt8:=name++lm 10 n
def dN(name:List UInt8)(n:Int):List UInt8×Int:=if n<0∨2147483647<n then([],3) else if aU (ru name n.toNat)=true then(ru name n.toNat,0) else([],2)
def serB(name:List UInt8)(n j:Nat):List UInt8:=name++(List.replicate (10-j) 48++lm j n)
theorem uY(name:List UInt8)(n j:Nat)(h:j≤10):(serB name n j).length=name.length+10:=by unfold serB;rw[Ry,Ry,Tv,pD];omega
theorem Kr(name:List UInt8)(n j:Nat)(h:j<10):(serB name n j).set (name.length+9-j) (dig (n/10^j))=serB name n (j+1):=by unfold serB;rw[show 10-j=(10-(j+1))+1 from by omega,Vo,wU,Sd,TL _ _ (by omega),TL _ _ (by simp;omega)];rw[Tv,show name.length+9-j-name.length-(10-(j+1))=0 from by omega];rfl
theorem Lj(name:List UInt8)(n j:Nat)(h:n/10^j=0)(hj:j≤10):serB name n j=ru name n:=by unfold serB ru;rw[←wo h,show j+(10-j)=10 from by omega]
theorem BQ{name:List UInt8}{n:Int}(h:n<0∨2147483647<n):dN name n=([],3):=by unfold dN;rw[Rx h]
theorem Eh{name:List UInt8}{n:Nat}(h:n≤2147483647)(h2:aU (ru name n)=true):dN name n=(ru name n,0):=by unfold dN;rw[Rw (by omega)];exact Rx h2
theorem Et{name:List UInt8}{n:Nat}(h:n≤2147483647)(h2:¬ aU (ru name n)=true):dN name n=([],2):=by unfold dN;rw[Rw (by omega)];exact Rw h2
theorem wM(name:List UInt8)(n:Nat):name++[48,48,48,48,48,48,48,48,48,48]=serB name n 0:=rfl
theorem FJ{l:List UInt8}{n:Nat}(h:l.length=n):List.take n (l.map aL)=l.map aL:=Rz (by rw[RC];omega)
theorem uS(name:List UInt8)(n:Int)(hn:name.length≤1048576)(hi:okI n):ab Tryz.prog [] 226 [S name,I n] (ret (.tup [S (dN name n).1,I (dN name n).2])):=by
 unfold okI at hi
 by_cases hb:n<0∨2147483647<n
 ·rw[BQ hb]
  refine zJ Tryz.func226 Tryz.ntmps226 Tryz.results226 ?_;simp only[go_sem]
  (refine zW qw zn X5 (z1 ?_)<;>(repeat with_reducible intro hc))
  all_goals first|omega|skip
  all_goals exact zEe X5
 obtain⟨m,rfl⟩:=SP (a:=n) (by omega);have hm:m≤2147483647:=by omega
 refine zJ Tryz.func226 Tryz.ntmps226 Tryz.results226 ?_;simp only[go_sem]
 (refine zW qw zn (zx @wM (zx @uY @RI)) (z1 ?_)<;>(repeat with_reducible intro hc))
 have hlz:=uY name m 0 (by omega);refine WQ (ι:=Nat) (fun j=>j≤10) (fun j=>10-j) [6] (fun j=>[(1,I ((m/10^j:Nat):Int)),(7,I ((name.length:Int)+9-j))]) (fun j=>[.bytes (serB name m j)]) 0 ?_ ?_ ?_
 ·omega
 ·simp only[go_sem];(refine ay.same ?_;simp(disch:=omega) only[go_sem,aa,Si,wM,Vb,Vq]);congr 2;omega
 intro j hj;have hl:=uY name m j hj;have hq:m/10^j≤2147483647:=RW (U2 _ _) hm;simp only[go_sem]
 by_cases h0:m/10^j=0
 ·have he:=Lj name m j h0 hj
  rw[he] at hl;have hk:=FJ hl;rw[he,h0];have hq:okS (ru name m):=by unfold okS;omega
  (refine zW qw (z1 (iC (ru name m) hq)) @hk (z2 ?_ ?_)<;>(repeat with_reducible intro hc))
  ·rw[Et hm (by rw[hc];decide)];exact zEe @hk
  ·rw[Eh hm hc];exact zEe @hk
 have hj10:j<10:=by
  refine Nat.lt_of_le_of_ne hj fun e=>h0 ?_
  subst e;exact Vi (by omega)
 have hd:=(dig (m/10^j)).toNat_lt
 (refine zW qw zn (zx @CI (zx @CQ (zx @ut (zx @qV @TV)))) (z3 ?_ ?_ ?_)<;>(try with_reducible intro(K:ASt→Prop) hK)<;>(repeat with_reducible intro hc))
 all_goals first|omega|skip
 ·refine⟨j+1,by omega,by omega,?_⟩
  rw[show((name.length:Int)+9-j).toNat=name.length+9-j from by omega,Kr name m j hj10,TR,←TH]
  (refine ay.same ?_;simp(disch:=omega) only[go_sem,aa,Si])
  congr 2;omega
 all_goals exact absurd (Nat.le_zero.1 (Int.ofNat_le.1 hc)) h0
theorem ls(name:List UInt8)(n:Int)(hn:name.length≤1048576)(hi:okI n):ab Tryz.prog [] 171 [S name,I n] (ret (.tup [S (dN name n).1,I (dN name n).2])):=by
 unfold okI at hi
 by_cases hb:n<0∨2147483647<n
 ·rw[BQ hb]
  refine zJ Tryz.func171 Tryz.ntmps171 Tryz.results171 ?_;simp only[go_sem]
  (refine zW qw zn X5 (z1 ?_)<;>(repeat with_reducible intro hc))
  all_goals first|omega|skip
  all_goals exact zEe X5
 obtain⟨m,rfl⟩:=SP (a:=n) (by omega);have hm:m≤2147483647:=by omega
 obtain⟨hdl,hdp⟩:=vg 9 m (by omega);refine zJ Tryz.func171 Tryz.ntmps171 Tryz.results171 ?_;simp only[go_sem]
 (refine zW qw (z1 (ko m (by omega))) X5 (z1 ?_)<;>(repeat with_reducible intro hc))
 refine WW (ι:=Nat) (fun j=>j≤10-(iH m).length) (fun j=>10-(iH m).length-j) [0] (fun j=>[(6,S (List.replicate j 48++iH m))]) 0 ?_ (by simp(disch:=omega) only[go_sem,aa,SH]) ?_
 ·omega
 intro j hj;have hl:(List.replicate j (48:UInt8)++iH m).length=j+(iH m).length:=by simp
 simp only[go_sem]
 by_cases h0:j=10-(iH m).length
 ·subst h0
  rw[hdp];have hkl:=pD 10 m;have hq:okS (name++lm 10 m):=by unfold okS;rw[Ry,pD];omega
  (refine zW qw (z1 (ref_named_c (name++lm 10 m) hq)) @hkl (z2 ?_ ?_)<;>(repeat with_reducible intro hc))
  ·rw[Et hm (by rw[show ru name m=name++lm 10 m from rfl,hc];decide)];exact zEe X5
  ·rw[Eh hm hc];exact zEe @ru.eq_1
 (refine zW qw zn X5 (z1 ?_)<;>(repeat with_reducible intro hc))
 ·refine⟨j+1,by omega,by omega,?_⟩
  exact zSm (zx @List.replicate_succ.{0} @List.cons_append.{0})
 all_goals(exfalso;omega)
theorem qWe1:Pls [XE [0,1,2,4] (.fork 3 (XE [5,6,7] .done) 5 (XE [3,6,7] .done))]:=pls _
theorem qWe3:Pls [XE [0,1,2,3,5] (.fork 4 (XE [6,7,8] .done) 6 (XE [4,7,8] .done))]:=pls _
def byteAt(k:Nat)(v:Int):UInt8:=UInt8.ofNat ((v/2^(8*k))%256).toNat
def beB:Nat→Int→List UInt8
 |0,_=>[]
 |n+1,v=>byteAt n v::beB n v
theorem beB_len(v:Int):∀ n,(beB n v).length=n
 |0=>rfl
 |n+1=>by rw[beB,RD,beB_len v n]
theorem vf(v:Int):∀(n j:Nat),j<n→(beB n v).take (n-j)=(beB n v).take (n-(j+1))++[byteAt j v]
 |0,j,h=>by omega
 | n + 1,j,h=>by
   by_cases e:j=n
   ·subst e
    rw[show j+1-j=1 from by omega,Tl];rfl
   ·rw[beB,show n+1-j=(n-j)+1 from by omega,show n+1-(j+1)=(n-(j+1))+1 from by omega,S3,S3,vf v n j (by omega)];rfl
theorem Np(x:Int):IntKind.u8.wrap x=((UInt8.ofNat (x%256).toNat).toNat:Int):=by rw[Uz];simp[IntKind.wrap,IntKind.bits,IntKind.signed];omega
theorem pg(j:Nat)(v:Int):IntKind.u8.wrap (v/2^(8*j))=((byteAt j v).toNat:Int):=Np _
theorem Hj(l:List UInt8)(v:Int)(n:Nat)(hn:n≤8)(hl:l.length≤1048576):ab Tryz.prog [.rows 1 (l.map aL)] 257 [.osl 0 1 0 l.length,I v,I n] (ew (.osl 1 1 0 (l.length+n)) [.dead,.rows 1 ((l++beB n v).map aL)]):=by
 refine zJ Tryz.func257 Tryz.ntmps257 Tryz.results257 ?_;simp only[go_sem];refine WR (Xu 0 rfl rfl (by simp)) ?_;simp only[go_sem];refine zW qw zn X5 (z1 ?_);refine WQ (ι:=Nat) (fun j=>j≤n) (fun j=>j) [1] (fun j=>[(0,.osl 1 1 0 (l.length+(n-j))),(7,I ((j:Int)-1))]) (fun j=>[.dead,.rows 1 ((l++(beB n v).take (n-j)).map aL)]) n ?_ ?_ ?_
 ·omega
 ·simp only[go_sem,Tl,S4,R5,SV];exact zSm X5
 intro j hj;rcases j with _|j
 ·simp only[go_sem]
  (refine zW qw zn X5 (z1 ?_)<;>(repeat with_reducible intro hc))
  rw[R3,Rz (by rw[beB_len];omega)]
  (refine zOp X5 ?_;simp(disch:=omega) only[go_sem,aa];refine WV ?_ (af.same ⟨rfl,rfl⟩);refine zV [0,1] rfl rfl rfl rfl ?_ ?_<;>simp(disch:=omega) only[go_sem,aa,UL,UM])
 rw[show((j+1:Nat):Int)-1=j from by omega];simp only[go_sem];have hw:IntKind.u64.wrap (8*(j:Int))=8*j:=by simp[IntKind.wrap,IntKind.bits,IntKind.signed];omega
 have hw2:(8*(j:Int)).toNat=8*j:=by omega
 have hle:(l++(beB n v).take (n-(j+1))).length=l.length+(n-(j+1)):=by rw[Ry,RH,beB_len];omega
 have hk:List.take (l.length+(n-(j+1))) ((l++(beB n v).take (n-(j+1))).map aL)=(l++(beB n v).take (n-(j+1))).map aL:=Rz (by rw[RC];omega)
 (refine zW qw zn (zx @hw (zx @hw2 @hk)) (z2 ?_ ?_)<;>(repeat with_reducible intro hc))
 ·simp[beB_len]
 refine⟨j,by omega,by omega,?_⟩;rw[vf v n j (by omega),←Sd,Sb (l₁:=l++_),show n-j=n-(j+1)+1 from by omega];exact zFr [0,3] (zx @hw (zx @hw2 (zx @hk (zx @pg (zx @List.map_cons.{0,0} (zx @List.map_nil.{0,0} (zx @aL.eq_1 @SL)))))))
theorem wu(v:Int)(n:Nat)(hn:n≤8):ab Tryz.prog [] 257 [.d (.sc (.slice none 0 0)),I v,I n] (ew (.osl 0 1 0 n) [.rows 1 ((beB n v).map aL)]):=by
 refine zJ Tryz.func257 Tryz.ntmps257 Tryz.results257 ?_;simp only[go_sem];refine WR (WT 0 1 rfl) ?_;simp only[go_sem];refine zW qw zn X5 (z1 ?_);refine WQ (ι:=Nat) (fun j=>j≤n) (fun j=>j) [1] (fun j=>[(0,.osl 0 1 0 (n-j)),(7,I ((j:Int)-1))]) (fun j=>[.rows 1 (((beB n v).take (n-j)).map aL)]) n ?_ ?_ ?_
 ·omega
 ·simp only[go_sem,Tl,S4,TP];exact zSm X5
 intro j hj;rcases j with _|j
 ·simp only[go_sem]
  (refine zW qw zn X5 (z1 ?_)<;>(repeat with_reducible intro hc))
  rw[R3,Rz (by rw[beB_len];omega)]
  (refine zOp X5 ?_;simp(disch:=omega) only[go_sem,aa];refine WV ?_ (af.same ⟨rfl,rfl⟩);refine zV [0] rfl rfl rfl rfl ?_ ?_<;>simp(disch:=omega) only[go_sem,aa,UL,UM])
 rw[show((j+1:Nat):Int)-1=j from by omega];simp only[go_sem];have hw:IntKind.u64.wrap (8*(j:Int))=8*j:=by simp[IntKind.wrap,IntKind.bits,IntKind.signed];omega
 have hw2:(8*(j:Int)).toNat=8*j:=by omega
 have hk:List.take (n-(j+1)) (((beB n v).take (n-(j+1))).map aL)=((beB n v).take (n-(j+1))).map aL:=Rz (by rw[RC,RH];omega)
 (refine zW qw zn (zx @hw (zx @hw2 @hk)) (z2 ?_ ?_)<;>(repeat with_reducible intro hc))
 ·simp[beB_len]
 refine⟨j,by omega,by omega,?_⟩;rw[vf v n j (by omega),Sb,show n-j=n-(j+1)+1 from by omega];exact zFr [2] (zx @hw (zx @hw2 (zx @hk (zx @pg (zx @List.map_cons.{0,0} (zx @List.map_nil.{0,0} (zx @aL.eq_1 @SL)))))))
theorem put_own_at(l:List UInt8)(v:Int)(n m k:Nat)(ni:Int)(hn:n≤8)(hl:l.length≤1048576)(hm:l.length=m)(hk:m+n=k)(hi:ni=n):ab Tryz.prog [.rows 1 (l.map aL)] 257 [.osl 0 1 0 m,I v,I ni] (ew (.osl 1 1 0 k) [.dead,.rows 1 ((l++beB n v).map aL)]):=by subst hm;subst hk;subst hi;exact Hj l v n hn hl
theorem Fg(v:Int):IntKind.u8.wrap v=((byteAt 0 v).toNat:Int):=by rw[←pg 0 v];simp
def b5(t:ATxn):List UInt8:=(beB 8 t.zxid++[byteAt 0 t.op])++beB 4 t.session
def b6(t:ATxn):List UInt8:=(b5 t++beB 4 t.version)++beB 4 t.owner
def b7(t:ATxn):List UInt8:=(b6 t++[byteAt 0 t.path.length])++t.path
def bF(t:ATxn):List UInt8:=(b7 t++beB 2 t.data.length)++t.data
theorem oD(t:ATxn):(b5 t).length=13:=by simp[b5,beB_len]
theorem qU(t:ATxn):(b6 t).length=21:=by simp[b6,oD,beB_len]
theorem oA(t:ATxn):(b7 t).length=22+t.path.length:=by simp[b7,qU];omega
theorem fY(t:ATxn):(bF t).length=24+t.path.length+t.data.length:=by simp[bF,oA,beB_len];omega
def dr(t:ATxn):List UInt8:=([84]++beB 2 (bF t).length)++bF t
theorem gO(t:ATxn):(dr t).length=27+t.path.length+t.data.length:=by unfold dr;simp only[Ry,fY,beB_len,RD,R1];omega
def pO(t:ATxn):List UInt8:=dr t++beB 4 (lY (dr t))
theorem ga{t:ATxn}(h:aT t=0):t.path.length≤200∧t.data.length≤256:=by
 unfold aT at h;split at h
 ·cases h
 split at h
 ·cases h
 split at h
 ·cases h
 split at h
 ·cases h
 rename_i h1 h2 h3 h4;refine⟨?_,by omega⟩;unfold v7 at h4
 by_cases e2:t.op≤2
 ·rw[Rx e2] at h4;simp at h4;rw[h4.1];simp
 rw[Rw e2] at h4
 have:br t.path=true:=by split at h4<;>(try split at h4)<;>simp at h4<;>exact h4.1
 exact nG this
def cE(t:ATxn):List UInt8×Int:=if aT t=0 then(pO t,0) else([],aT t)
theorem tB(t:ATxn)(hp:okS t.path)(hd:okS t.data):ab Tryz.prog [] 228 [t.av] (ret (.tup [S (cE t).1,I (cE t).2])):=by
 refine zJ Tryz.func228 Tryz.ntmps228 Tryz.results228 ?_;simp only[go_sem]
 by_cases g:aT t=0
 case neg=>
  unfold cE;rw[Rw g]
  (refine zW qw (z1 (sJ t hp hd)) X5 (z1 ?_)<;>(repeat with_reducible intro hc))
  all_goals first|omega|skip
  all_goals exact zEe X5
 unfold cE;rw[Rx g]
 (refine zW qw (z2 ((sJ t hp hd).re (congrArg I g)) (wu t.zxid 8 (by decide))) X5 (z1 ?_)<;>(repeat with_reducible intro hc))
 obtain⟨s1,s2⟩:=ga g;have l8:=beB_len t.zxid 8;have hh:okS (dr t):=by unfold okS dr;simp only[Ry,fY,beB_len,RD,R1];omega
 have tk24:List.take (24+t.path.length) (List.map aL (b7 t++beB 2 (t.data.length:Int)))=List.map aL (b7 t++beB 2 (t.data.length:Int)):=Rz (by rw[RC,Ry,oA,beB_len];omega);have hbr:List.map aL (bF t)=List.map aL (b7 t++beB 2 (t.data.length:Int))++List.map aL t.data:=by unfold bF;rw[Sb]
 have h84:(((84:UInt8).toNat:Nat):Int)=84:=rfl;have tk22:List.take 22 (List.map aL (b6 t)++[[DV.int IntKind.u8 ((byteAt 0 (t.path.length:Int)).toNat:Int)]])=List.map aL (b6 t)++[[DV.int IntKind.u8 ((byteAt 0 (t.path.length:Int)).toNat:Int)]]:=Rz (by simp[qU]);have tk (l:List UInt8) (n:Nat) (h:l.length=n):List.take n (l.map aL)=l.map aL:=Rz (by rw[RC];omega);refine WS [1] [(5,.osl 1 1 0 13)] [.cells [I t.zxid,I t.op,I t.session,S t.path,S t.data,I t.version,I t.owner],.rows 1 ((b5 t).map aL)] ?_ ?_
 ·(repeat' first
|(with_reducible refine AR.f ?_)
|refine bI (by decide) ?_
|(with_reducible refine AWP.cond rfl ?_ ?_<;>intro hc<;>(try simp only[hcs,RN,RY,RZ] at hc))
|((first|((first|refine zP ((XE [0,1,2,6] (.fork 3 (.fork 4 (.fork 5 (XE [7,8,9] .done) 7 (XE [5,8,9] .done)) 7 (XE [4,5,8,9] .done)) 7 (XE [3,4,5,8,9] .done)))) ?_|(with_reducible first|refine zR ?_|refine zQ ?_|refine zD ?_|refine zE ?_|refine zG ?_));intro K hK)|(refine acallH_own (put_own_at (beB 8 t.zxid++[byteAt 0 t.op]) t.session 4 9 13 4 (by decide) (by simp[beB_len]) (by simp[beB_len]) rfl rfl) ?_ ?_ ?_;(focus((try simp(disch:=omega) only[inj,R8,S6,R7,RV,RP,RS,Se,go_sem,aa,tk _ _ l8,Sb,Tw,TP,Fg,aL])<;>(try omega)<;>fail));(focus((try simp(disch:=omega) only[inj,R8,S6,R7,RV,RP,RS,Se,go_sem,aa,tk _ _ l8,Sb,Tw,TP,Fg,aL])<;>(try omega)<;>(try decide)<;>fail)))|((first|(with_reducible refine aunder_i ?_ ?_<;>intro hg)|with_reducible intro hg)<;>(first|(exfalso;simp at hg;done)|(have hg':=hg;(try simp only[hcs,RN,RY,RZ] at hg');(try simp only[hg])))))<;>(try simp(disch:=omega) only[go_sem,aa,tk _ _ l8,Sb,Tw,TP,Fg,aL])<;>(repeat' with_reducible refine Sg ?_ ?_)<;>(try(with_reducible refine hK _ ?_;clear hK K)))
|omega)
  all_goals exact zFr [0,4] (zx @b5.eq_1 (zx @List.map_append.{0,0} (zx @List.map_cons.{0,0} (zx @List.map_nil.{0,0} @aL.eq_1))))
 simp only[go_sem];refine AWP.seq (WS [1] [(5,.osl 1 1 0 21)] [.cells [I t.zxid,I t.op,I t.session,S t.path,S t.data,I t.version,I t.owner],.rows 1 ((b6 t).map aL)] ?_ ?_)
 ·refine zW qw (z3 qWe1 (ow (put_own_at (b5 t) t.version 4 13 17 4 (by decide) (by simp[oD]) (oD t) rfl rfl)) (ow (put_own_at (b5 t++beB 4 t.version) t.owner 4 17 21 4 (by decide) (by simp[oD,beB_len]) (by simp[oD,beB_len]) rfl rfl))) X5 (z2 ?_ ?_)
  all_goals exact zFr [0,3] @b6.eq_1
 simp only[go_sem];refine AWP.seq (WS [1] [(5,.osl 1 1 0 (22+t.path.length))] [.cells [I t.zxid,I t.op,I t.session,S t.path,S t.data,I t.version,I t.owner],.rows 1 ((b7 t).map aL)] ?_ ?_)
 ·(repeat' first
|(with_reducible refine AR.f ?_)
|refine bI (by decide) ?_
|(with_reducible refine AWP.cond rfl ?_ ?_<;>intro hc<;>(try simp only[hcs,RN,RY,RZ] at hc))
|((first|((first|refine zP ((XE [0,1,2,3,7] (.fork 4 (.fork 5 (.fork 6 (XE [8,9,10] .done) 8 (XE [6,9,10] .done)) 8 (XE [5,6,9,10] .done)) 8 (XE [4,5,6,9,10] .done)))) ?_|(with_reducible first|refine zR ?_|refine zQ ?_|refine zD ?_|refine zE ?_|refine zG ?_));intro K hK)|((first|(with_reducible refine aunder_i ?_ ?_<;>intro hg)|with_reducible intro hg)<;>(first|(exfalso;simp at hg;done)|(have hg':=hg;(try simp only[hcs,RN,RY,RZ] at hg');(try simp only[hg])))))<;>(try simp(disch:=omega) only[go_sem,aa,tk _ _ (qU t),Fg])<;>(repeat' with_reducible refine Sg ?_ ?_)<;>(try(with_reducible refine hK _ ?_;clear hK K)))
|omega)
  all_goals first|exact Uk (qU t).symm|omega|skip
  all_goals exact zFr [0,4] (zx @b7.eq_1 (zx @tk22 (zx @List.map_append.{0,0} (zx @List.map_cons.{0,0} (zx @List.map_nil.{0,0} @aL.eq_1)))))
 simp only[go_sem];refine AWP.seq (WS [1] [(5,.osl 1 1 0 (bF t).length)] [.cells [I t.zxid,I t.op,I t.session,S t.path,S t.data,I t.version,I t.owner],.rows 1 ((bF t).map aL)] ?_ ?_)
 ·(refine zW qw (z2 qWe3 (ow (put_own_at (b7 t) t.data.length 2 (22+t.path.length) (24+t.path.length) 2 (by decide) (by rw[oA];omega) (oA t) (by omega) rfl))) @fY (z3 ?_ ?_ ?_)<;>(try with_reducible intro(K:ASt→Prop) hK))
  all_goals first|exact Uk (by rw[oA,beB_len];omega)|skip
  all_goals exact zFr [0,3] (zx @fY (zx @hbr @tk24))
 simp only[go_sem];have hB:=fY t;have tk2:List.take 2 (List.map aL (beB 2 ((bF t).length:Int)))=List.map aL (beB 2 ((bF t).length:Int)):=Rz (by rw[RC,beB_len];decide);have hH:[DV.int IntKind.u8 84]::(List.map aL (beB 2 ((bF t).length:Int))++List.map aL (bF t))=List.map aL (dr t):=by unfold dr;rw[Sb,Sb];rfl
 have tkH:List.take (3+(bF t).length) (List.map aL (dr t))=List.map aL (dr t):=Rz (by rw[RC,dr,Ry,Ry,beB_len];simp);have tk4 (v:Int):List.take 4 (List.map aL (beB 4 v))=List.map aL (beB 4 v):=Rz (by rw[RC,beB_len];decide)
 (refine zW qw (z3 (ow (put_own_at [84] (bF t).length 2 1 3 2 (by decide) (by decide) rfl rfl rfl)) (Oh (dr t) hh) (wu (lY (dr t)) 4 (by decide))) (zx @List.map_cons.{0,0} (zx @List.map_nil.{0,0} (zx @h84 (zx @tk2 (zx @hH (zx @tkH @tk4)))))) (zc ?_ (z4 ?_ ?_ ?_ ?_))<;>(repeat with_reducible intro hc))
 ·exact Uk (beB_len _ _).symm
 ·exact Uk (by rw[gO];omega)
 ·exact Uk (beB_len _ _).symm
 ·rw[gO,beB_len];omega
 ·exact zEe @pO.eq_1
theorem Fu(v:Int)(n:Nat)(hn:n≤8):ab Tryz.prog [] 254 [I v,I n] (ret (S (beB n v))):=by
 refine zJ Tryz.func254 Tryz.ntmps254 Tryz.results254 ?_;simp only[go_sem];refine zW qw zn X5 (z1 ?_);refine WQ (ι:=Nat) (fun j=>j≤n) (fun j=>n-j) [] (fun j=>[(0,I (v/2^(8*j))),(1,I ((n-j:Nat):Int)),(5,S (beB j v))]) (fun j=>[]) 0 ?_ ?_ ?_
 ·omega
 ·simp only[go_sem,Nat.mul_zero,R3,beB,Int.pow_zero,Int.ediv_one];exact zSm X5
 intro j hj;have hu:[DV.int IntKind.u8 ((byteAt j v).toNat:Int)]=aL (byteAt j v):=rfl;have ok1:wg [[DV.int IntKind.u8 ((byteAt j v).toNat:Int)]]:=lB [byteAt j v];have hdiv:v/2^(8*j)/256=v/2^(8*(j+1)):=by rw[Int.ediv_ediv_of_nonneg (Int.pow_nonneg (by decide)),show(8*(j+1))=8*j+8 from by omega,Int.pow_add];rfl
 simp only[go_sem]
 (refine zW qw zn (zx @pg (zx @ok1 (zx @SW (zx @TV @hdiv)))) (z3 ?_ ?_ ?_)<;>(repeat with_reducible intro hc))
 ·rw[beB_len];omega
 ·refine⟨j+1,by omega,by omega,?_⟩
  have hs:((n-j:Nat):Int)-1=((n-(j+1):Nat):Int):=by omega
  (refine zV [] rfl rfl rfl rfl ?_ ?_<;>simp(disch:=omega) only[go_sem,aa,Si,pg,hdiv,beB,hs]<;>(try rfl))
 ·rw[show j=n from by omega]
  exact zEe X5
theorem eh(v:Int)(n:Nat)(hn:n≤8)(ni:Int)(hi:ni=n):ab Tryz.prog [] 254 [I v,I ni] (ret (S (beB n v))):=by subst hi;exact Fu v n hn
theorem kW(t:ATxn)(hz:okI t.zxid)(hp:t.path.length≤1048576)(hd:okS t.data):ab Tryz.prog [] 213 [t.av] (ret (.tup [S (cE t).1,I (cE t).2])):=by
 refine zJ Tryz.func213 Tryz.ntmps213 Tryz.results213 ?_;simp only[go_sem]
 by_cases g:aT t=0
 case neg=>
  unfold cE;rw[Rw g]
  (refine zW qw (z1 (cZ t hz hp hd)) X5 (z1 ?_)<;>(repeat with_reducible intro hc))
  all_goals first|omega|skip
  all_goals exact zEe X5
 unfold cE;rw[Rx g];obtain⟨s1,s2⟩:=ga g;have hh:okS (dr t):=by unfold okS;rw[gO];omega
 have hbody:beB 8 t.zxid++beB 1 t.op++beB 4 t.session++beB 4 t.version++beB 4 t.owner++beB 1 (t.path.length:Int)++t.path++beB 2 (t.data.length:Int)++t.data=bF t:=rfl;have hhead:[84]++beB 2 ((bF t).length:Int)++bF t=dr t:=rfl;have hhead2:84::(beB 2 ((bF t).length:Int)++bF t)=dr t:=rfl
 (refine zW qw (zc ((cZ t hz hp hd).re (congrArg I g)) (zc (eh t.zxid 8 (by decide) 8 rfl) (zc (eh t.op 1 (by decide) 1 rfl) (zc (eh t.session 4 (by decide) 4 rfl) (zc (eh t.version 4 (by decide) 4 rfl) (zc (eh t.owner 4 (by decide) 4 rfl) (zc (eh t.path.length 1 (by decide) 1 rfl) (z4 (eh t.data.length 2 (by decide) 2 rfl) (eh (bF t).length 2 (by decide) 2 rfl) (wO (dr t) hh) (eh (lY (dr t)) 4 (by decide) 4 rfl))))))))) (zx @hbody (zx @hhead @hhead2)) (zc ?_ (zc ?_ (zc ?_ (zc ?_ (zc ?_ (zc ?_ (zc ?_ (zc ?_ (z4 ?_ ?_ ?_ ?_)))))))))<;>(repeat with_reducible intro hc))
 all_goals first|(with_reducible refine RW (m:=1000) ?_ (by decide);simp only[beB_len,fY,gO];omega)|skip
 exact zEe @pO.eq_1
def aA(l:List ATxn):Int:=if l=[] then 0 else(l.getD (l.length-1) default).zxid
theorem gK:aA []=0:=rfl
theorem dQ{l:List ATxn}(h:0<l.length):aA l=(l.getD (l.length-1) default).zxid:=by unfold aA;rw[Rw (fun e=>by rw[e] at h;exact absurd h (by decide))]
theorem fQ(l:List ATxn)(t:ATxn):aA (l++[t])=t.zxid:=by rw[dQ (by simp)];simp
theorem mw(l:List ATxn)(h:l.length*72≤140737488351232):ab Tryz.prog [] 117 [.d (.sl 7 (l.map ATxn.row))] (ret (I (aA l))):=by
 refine zJ Tryz.func117 Tryz.ntmps117 Tryz.results117 ?_;simp only[go_sem]
 (refine zW qw zn @ATxn.rgetD (z2 ?_ ?_)<;>(repeat with_reducible intro hc))
 ·have e:l=[]:=R2 (by omega)
  rw[e,gK];exact zEe X5
 all_goals first|omega|skip
 rw[dQ (by omega)];have e:(((l.length:Int)-1).toNat)=l.length-1:=by omega
 (refine zE2 (zx @ATxn.rgetD @e) ?_;(try simp(disch:=omega) only[go_sem,aa,ATxn.rgetD,e,I,B,S,zj]))
 all_goals trace_state
theorem ref_last_c(l:List ATxn)(h:l.length*72≤140737488351232):ab Tryz.prog [] 96 [.d (.sl 7 (l.map ATxn.row))] (ret (I (aA l))):=by
 refine zJ Tryz.func96 Tryz.ntmps96 Tryz.results96 ?_;simp only[go_sem];refine zW qw zn X5 (z1 ?_);refine WQ (ι:=Nat) (fun k=>k≤l.length) (fun k=>l.length-k) [6,7] (fun k=>[(8,I k),(3,I (aA (l.take k)))]) (fun k=>[]) 0 ?_ ?_ ?_
 ·omega
 ·simp only[go_sem,gK];exact zSm X5
 intro k hk;simp only[go_sem]
 (refine zW qw zn @ATxn.rgetD (z2 ?_ ?_)<;>(repeat with_reducible intro hc))
 ·refine⟨k+1,by omega,by omega,?_⟩
  have e:l.take (k+1)=l.take k++[l.getD k default]:=aN l k (by assumption);rw[e,fQ];exact zFr [] X5
 ·rw[show k=l.length from by omega,RU];exact zEe X5
def fS(s:List UInt8):Nat→Nat→List ATxn→List ATxn×Nat
 |0,at_,l=>(l,at_)
 |f+1,at_,l=>if(cb (s.drop at_)).2.2≠0∨(0<l.length∧(cb (s.drop at_)).1.zxid≤aA l) then(l,at_) else fS s f (at_+(cb (s.drop at_)).2.1.toNat) (l++[(cb (s.drop at_)).1])
def scanT(s:List UInt8):List ATxn×Nat:=fS s (s.length+1) 0 []
theorem jo(s:List UInt8):((cb s).2.2≠0∧(cb s).2.1=0)∨((cb s).2.2=0∧(cb s).2.1=((sN s+7:Nat):Int)∧sN s+7≤s.length∧sN s≤1024∧aT (cb s).1=0):=by
 by_cases h1:dw s
 ·rw[qq h1];left;simp
 by_cases h2:dU s
 ·rw[tl h1 h2];left;simp
 by_cases h3:gF s
 ·rw[yZ h1 h2 h3];left;simp
 by_cases h4:dK (sB s)
 case neg=>rw[qM h1 h2 h3 h4];left;simp
 by_cases h5:aT (dZ (sB s))=0
 ·rw[va h1 h2 h3 h4 h5];right
  unfold dU at h2;exact⟨rfl,rfl,by omega,by omega,h5⟩
 ·rw[yK h1 h2 h3 h4 h5];left;exact⟨h5,rfl⟩
theorem fR{s:List UInt8}{f at_:Nat}{l:List ATxn}(h:(cb (s.drop at_)).2.2≠0∨(0<l.length∧(cb (s.drop at_)).1.zxid≤aA l)):fS s f at_ l=(l,at_):=by
 cases f with
 |zero=>rfl
 |succ f=>rw[fS,Rx h]
theorem GU{s:List UInt8}{f at_:Nat}{l:List ATxn}(h:s.length≤at_):fS s f at_ l=(l,at_):=
 fR (.inl (by rw[qq (.inl (by rw[RL];omega))];decide))
theorem gP{s:List UInt8}{f at_ n:Nat}{l:List ATxn}(h1:(cb (s.drop at_)).2.2=0)(h2:¬ (0<l.length∧(cb (s.drop at_)).1.zxid≤aA l))(hn:(cb (s.drop at_)).2.1=(n:Int)):fS s (f+1) at_ l=fS s f (at_+n) (l++[(cb (s.drop at_)).1]):=by rw[fS,Rw (by rintro(h|h);exact h h1;exact h2 h),hn];rfl
theorem OK(s:List UInt8)(hs:s.length≤1048576):ab Tryz.prog [] 84 [S s] (ret (.tup [.d (.sl 7 ((scanT s).1.map ATxn.row)),I (scanT s).2])):=by
 refine zJ Tryz.func84 Tryz.ntmps84 Tryz.results84 ?_;simp only[go_sem];refine zW qw zn X5 (z1 ?_);refine WR (WT 4 7 rfl) ?_;simp only[go_sem];refine WQ (ι:=Nat×Nat×List ATxn) (fun v=>v.2.1≤s.length∧s.length<v.2.1+v.1∧v.2.2.length≤v.2.1∧fS s v.1 v.2.1 v.2.2=scanT s) (fun v=>v.1) [0] (fun v=>[(5,I v.2.1),(4,.osl 0 7 0 v.2.2.length)]) (fun v=>[.rows 7 (v.2.2.map ATxn.row)]) (s.length+1,0,[]) ?_ ?_ ?_
 ·exact⟨by simp,by simp,by simp,rfl⟩
 ·simp only[go_sem];exact zSm X5
 intro⟨f,k,l⟩ ⟨h1,h2,h3,h4⟩;simp only at h1 h2 h3 h4;simp only[go_sem];have ed:List.take (s.length-k) (List.drop k s)=List.drop k s:=Rz (by rw[RL];omega)
 (repeat' first
|(with_reducible refine AR.f ?_)
|refine bI (by decide) ?_
|(with_reducible refine AWP.cond rfl ?_ ?_<;>intro hc<;>(try simp only[hcs,RN,RY,RZ] at hc))
|((first|((first|(with_reducible first|refine zR ?_|refine zQ ?_|refine zD ?_|refine zE ?_|refine zG ?_));intro K hK)|((first|refine zA (decode_c (s.drop k) (by rw[RL];omega)) ?_ ?_ ?_ ?_ ?_|refine zA (mw l (by omega)) ?_ ?_ ?_ ?_ ?_);(focus exact rfl);(focus exact rfl);iterate 2 (focus((try simp(disch:=omega) only[go_sem,aa,ed,ax,ATxn.rsnoc])<;>(try omega)<;>fail)))|((first|refine zN (decode_c (s.drop k) (by rw[RL];omega)) rfl ?_ ?_|refine zX (decode_c (s.drop k) (by rw[RL];omega)) rfl ?_ ?_|refine zY (decode_c (s.drop k) (by rw[RL];omega)) ?_ ?_|refine zX (mw l (by omega)) rfl ?_ ?_);(focus((try simp(disch:=omega) only[go_sem,aa,ed,ax,ATxn.rsnoc])<;>(try omega)<;>fail)))|((first|(with_reducible refine aunder_i ?_ ?_<;>intro hg)|with_reducible intro hg)<;>(first|(exfalso;simp at hg;done)|(have hg':=hg;(try simp only[hcs,RN,RY,RZ] at hg');(try simp only[hg])))))<;>(try simp(disch:=omega) only[go_sem,aa,ed,ax,ATxn.rsnoc])<;>(repeat' with_reducible refine Sg ?_ ?_)<;>(try(with_reducible refine hK _ ?_;clear hK K)))
|omega)
 ·rw[←h4,fR (hc.imp id fun h=>⟨by omega,h.2⟩)];exact zEe X5
 ·rcases jo (s.drop k) with⟨q,_⟩|⟨q1,q2,q3,q4,_⟩
  ·exact absurd hc.1 q
  rw[RL] at q3;have q5:=gP (s:=s) (f:=f-1) (at_:=k) (n:=sN (s.drop k)+7) (l:=l) q1 (fun h=>by omega) q2;rw[show f-1+1=f from by omega] at q5;refine⟨(f-1,k+(sN (s.drop k)+7),l++[(cb (s.drop k)).1]),⟨by simp only;omega,by simp only;omega,by simp;omega,q5.symm.trans h4⟩,by simp only;omega,?_⟩;exact zFr [3] (zx @q2 (zx @List.length_append.{0} @ATxn.rsnoc))
 ·have hx:(cb (s.drop k)).2.2≠0∨(0<l.length∧(cb (s.drop k)).1.zxid≤aA l):=by
   by_cases e:(cb (s.drop k)).2.2=0
   ·rcases hc with h|h
    ·exact .inl h
    ·rw[e] at hg;simp at hg;omega
   ·exact .inl e
  rw[←h4,fR hx];exact zEe X5
 ·rcases jo (s.drop k) with⟨q,_⟩|⟨q1,q2,q3,q4,_⟩
  ·exact absurd hc.1 q
  have hl0:l.length=0:=by rw[q1] at hg;simp at hg;rw[hg];rfl
  rw[RL] at q3;have q5:=gP (s:=s) (f:=f-1) (at_:=k) (n:=sN (s.drop k)+7) (l:=l) q1 (fun h=>by omega) q2;rw[show f-1+1=f from by omega] at q5;refine⟨(f-1,k+(sN (s.drop k)+7),l++[(cb (s.drop k)).1]),⟨by simp only;omega,by simp only;omega,by simp;omega,q5.symm.trans h4⟩,by simp only;omega,?_⟩;exact zFr [3] (zx @q2 (zx @List.length_append.{0} @ATxn.rsnoc))
 ·rw[←h4,GU (by omega)];exact zEe X5
 all_goals trace_state
theorem CU{s:List UInt8}(h:(cb s).2.2≠0):scanT s=([],0):=fR (.inl h)
theorem Dm{s:List UInt8}{n:Nat}(h:(cb s).2.2=0)(hn:(cb s).2.1=(n:Int)):fS s s.length n [(cb s).1]=scanT s:=by have:=gP (s:=s) (f:=s.length) (at_:=0) (n:=n) (l:=[]) (by rw[Tj];exact h) (by simp) (by rw[Tj];exact hn);rw[Tj,SB,Sp] at this;exact this.symm
theorem Di(s:List UInt8)(hs:s.length≤1048576):ab Tryz.prog [] 148 [S s] (ret (.tup [.d (.sl 7 ((scanT s).1.map ATxn.row)),I (scanT s).2])):=by
 refine zJ Tryz.func148 Tryz.ntmps148 Tryz.results148 ?_;simp only[go_sem]
 (refine zW qw (z1 (pd s hs)) X5 (z2 ?_ ?_)<;>(repeat with_reducible intro hc))
 ·rw[CU hc];exact zEe X5
 rcases jo s with⟨q,_⟩|⟨q1,q2,q3,q4,_⟩
 ·exact absurd hc q
 refine WQ (ι:=Nat×Nat×List ATxn×ATxn) (fun v=>v.2.1≤s.length∧s.length<v.2.1+v.1∧v.2.2.1.length≤v.2.1∧0<v.2.2.1.length∧fS s v.1 v.2.1 v.2.2.1=scanT s) (fun v=>v.1) [0,4] (fun v=>[(8,I v.2.1),(7,.osl 1 7 0 v.2.2.1.length)]) (fun v=>[.cells [I v.2.2.2.zxid,I v.2.2.2.op,I v.2.2.2.session,S v.2.2.2.path,S v.2.2.2.data,I v.2.2.2.version,I v.2.2.2.owner],.rows 7 (v.2.2.1.map ATxn.row)]) (s.length,sN s+7,[(cb s).1],(cb s).1) ?_ ?_ ?_
 ·exact⟨q3,by simp only;omega,by simp,by simp,Dm q1 q2⟩
 ·simp only[go_sem,q2];exact zSm X5
 intro⟨f,k,l,t⟩ ⟨h1,h2,h3,h5,h4⟩;simp only at h1 h2 h3 h4 h5;simp only[go_sem];have ed:List.take (s.length-k) (List.drop k s)=List.drop k s:=Rz (by rw[RL];omega);have el:((l.length:Int)-1).toNat=l.length-1:=by omega
 have lz:=(dQ h5).symm
 (refine zW qw (z1 (pd (s.drop k) (by rw[RL];omega))) (zx @ed (zx @ax (zx @ATxn.rsnoc (zx @ATxn.rgetD (zx @el @lz))))) (z2 ?_ ?_)<;>(repeat with_reducible intro hc))
 ·rw[←h4,fR (hc.imp id fun h=>⟨h5,h⟩)];exact zEe X5
 ·rcases jo (s.drop k) with⟨q,_⟩|⟨q1,q2,q3,q4,_⟩
  ·exact absurd hc.1 q
  rw[RL] at q3;have q5:=gP (s:=s) (f:=f-1) (at_:=k) (n:=sN (s.drop k)+7) (l:=l) q1 (fun h=>by omega) q2;rw[show f-1+1=f from by omega] at q5;refine⟨(f-1,k+(sN (s.drop k)+7),l++[(cb (s.drop k)).1],(cb (s.drop k)).1),⟨by simp only;omega,by simp only;omega,by simp;omega,by simp,q5.symm.trans h4⟩,by simp only;omega,?_⟩;exact zFr [0,3] (zx @q2 (zx @List.length_append.{0} @ATxn.rsnoc))
def t1:ATxn:=⟨1,1,1,[],[],0,0⟩
theorem xQ(s:List UInt8):∀(f at_:Nat) (l:List ATxn),(fS s f at_ l).1.length≤l.length+f
 |0,_,l=>RE _
 | f + 1,at_,l=>by
   rw[fS];split
   ·simp
   ·have:=xQ s f (at_+(cb (s.drop at_)).2.1.toNat) (l++[(cb (s.drop at_)).1])
    rw[Ry,Sj] at this;omega
theorem ww(s:List UInt8):(scanT s).1.length≤s.length+1:=by have:=xQ s (s.length+1) 0 [];simpa[scanT] using this
def logN:List UInt8:=[108,111,103]
theorem gy:okS logN:=by unfold okS;decide
theorem cL{l:List AFile}{key s:List UInt8}(hk:okS key)(hw:∀ f,f∈l→f.wf):∀ f,f∈(aD l key s).1.files→f.wf:=by
 intro f hf;unfold aD at hf;split at hf
 ·cases hf
 ·split at hf
  ·cases hf
  ·split at hf
   ·split at hf
    ·cases hf
    ·obtain⟨g1,g2,g3,g4⟩:=eO hw (place (l.map AFile.name) key)
     rcases S1 hf with h|h
     ·exact hw f h
     ·subst h
      exact⟨g1,g3,by show okS _;unfold okS;rw[Ry];omega⟩
   ·split at hf
    ·cases hf
    ·split at hf
     ·cases hf
     ·rename_i h1
      have hf':f∈l.insertIdx (place (l.map AFile.name) key) ⟨key,[],s⟩:=hf;rw[TM iR] at hf';rcases hf' with h|h
      ·subst h;exact⟨hk,by show okS [];unfold okS;decide,by show okS s;unfold okS;omega⟩
      ·exact hw f h
def cI(l:List AFile)(t:ATxn)(safe:Bool):XQ×Int:=
 if aT t≠0 then(default,aT t)
 else if(aD l logN (cE t).1).2≠0∨safe=false then aD l logN (cE t).1 else bj (aD l logN (cE t).1).1.files logN lL
theorem Gi{l:List AFile}{t:ATxn}{safe:Bool}:(cI l t safe).1.files.length*48≤140737488351232:=by
 unfold cI;split
 ·exact(by decide:([]:List AFile).length*48≤140737488351232)
 ·split
  ·exact ia
  ·exact xu ia
theorem sK{t:ATxn}(h:aT t=0):okS (cE t).1∧(cE t).2=0:=by obtain⟨s1,s2⟩:=ga h;unfold cE;rw[Rx h];refine⟨?_,rfl⟩;unfold okS pO;simp only[Ry,gO,beB_len];omega
theorem Ew{t:ATxn}(h:aT t≠0):cE t=([],aT t):=by unfold cE;rw[Rw h]
theorem Jg(d:XQ)(t:ATxn)(safe:Bool)(h:d.files.length*48≤140737488351232)(hw:∀ f,f∈d.files→f.wf)(hp:okS t.path)(hd:okS t.data):ab Tryz.prog [] 177 [d.av,t.av,B safe] (ret (.tup [(cI d.files t safe).1.av,I (cI d.files t safe).2])):=by
 by_cases hg:aT t=0
 case neg=>
  have he:=tB t hp hd;rw[Ew hg] at he;unfold cI;rw[Rx hg];refine zJ Tryz.func177 Tryz.ntmps177 Tryz.results177 ?_;simp only[go_sem]
  (refine zW qw (z1 he) X5 (z1 ?_)<;>(repeat with_reducible intro hc))
  all_goals try exact zk1
  exact zEe dfl
 obtain⟨e1,e2⟩:=sK hg;have he:=tB t hp hd;rw[e2] at he;unfold cI;rw[Rw (fun h=>h hg)];have hs:=KS (aD d.files logN (cE t).1).1 logN ia (cL gy hw);refine zJ Tryz.func177 Tryz.ntmps177 Tryz.results177 ?_;simp only[go_sem]
 (refine zW qw (z3 he (yu d logN (cE t).1 e1 gy h hw) hs) @logN.eq_1 (z2 ?_ ?_)<;>(repeat with_reducible intro hc))
 ·have hc':(aD d.files logN (cE t).1).2≠0∨safe=false:=hc
  rw[Rx hc'];exact zEe @logN.eq_1
 ·have hc':¬ ((aD d.files logN (cE t).1).2≠0∨safe=false):=fun h=>by rcases h with h|h;exact h hc.1;rw[hc.2] at h;cases h
  rw[Rw hc'];exact zEe @logN.eq_1
theorem yx(d:XQ)(t:ATxn)(safe:Bool)(h:d.files.length*48≤140737488351232)(hw:∀ f,f∈d.files→f.wf)(hz:okI t.zxid)(hp:t.path.length≤1048576)(hd:okS t.data):ab Tryz.prog [] 173 [d.av,t.av,B safe] (ret (.tup [(cI d.files t safe).1.av,I (cI d.files t safe).2])):=by
 by_cases hg:aT t=0
 case neg=>
  have he:=kW t hz hp hd;rw[Ew hg] at he;unfold cI;rw[Rx hg];refine zJ Tryz.func173 Tryz.ntmps173 Tryz.results173 ?_;simp only[go_sem]
  (refine zW qw (z1 he) X5 (z1 ?_)<;>(repeat with_reducible intro hc))
  all_goals try exact zk1
  exact zEe dfl
 obtain⟨e1,e2⟩:=sK hg;have he:=kW t hz hp hd;rw[e2] at he;unfold cI;rw[Rw (fun h=>h hg)];have hs:=uV (aD d.files logN (cE t).1).1 logN ia (cL gy hw);refine zJ Tryz.func173 Tryz.ntmps173 Tryz.results173 ?_;simp only[go_sem]
 (refine zW qw (z3 he (m5 d logN (cE t).1 e1 gy h hw) hs) @logN.eq_1 (z2 ?_ ?_)<;>(repeat with_reducible intro hc))
 ·have hc':(aD d.files logN (cE t).1).2≠0∨safe=false:=hc
  rw[Rx hc'];exact zEe @logN.eq_1
 ·have hc':¬ ((aD d.files logN (cE t).1).2≠0∨safe=false):=fun h=>by rcases h with h|h;exact h hc.1;rw[hc.2] at h;cases h
  rw[Rw hc'];exact zEe @logN.eq_1
theorem He(l:List UInt8):∀ a:Nat,l.foldl (fun v (x:UInt8)=>v*256+x.toNat) a=a*256^l.length+numN l:=by
 induction l with
 |nil=>intro a;simp[numN]
 | cons x l ih=>
   intro a;unfold numN;rw[Uh,Uh,ih,ih,RD,TR]
   have:(a*256+x.toNat)*256^l.length=a*(256^l.length*256)+x.toNat*256^l.length:=by rw[Sm,Nat.mul_assoc,Wb 256 (256^l.length)]
   rw[this,Nat.zero_mul,SB,SL]
theorem rf(x:UInt8)(l:List UInt8):numN (x::l)=x.toNat*256^l.length+numN l:=by unfold numN;rw[Uh,He,Nat.zero_mul,SB];rfl
theorem vB:∀ l:List UInt8,numN l<256^l.length
 |[]=>by simp[numN]
 | x::l=>by
   have h:=vB l;have hx:=x.toNat_lt;rw[rf,RD,TR]
   have:x.toNat*256^l.length≤255*256^l.length:=R0 _ (by omega);omega
theorem QQ(n:Nat):(2:Int)^(8*n)=((256^n:Nat):Int):=by rw[Int.pow_mul];simp
theorem uH:∀(l:List UInt8) (k:Int),beB l.length ((numN l:Int)+(256^l.length:Nat)*k)=l
 |[],_=>rfl
 | x :: l,k=>by
   have hb:=vB l;have hx:=x.toNat_lt;rw[RD,beB]
   have e:((numN (x::l):Nat):Int)+((256^(l.length+1):Nat):Int)*k=(numN l:Int)+((256^l.length:Nat):Int)*(x.toNat+256*k):=by
    rw[rf,TR,Si,Wn,Wn,Int.mul_add,Int.mul_comm (x.toNat:Int),Int.mul_assoc];generalize ((256^l.length:Nat):Int)*_=a;simp only[U3] at *
    omega
   rw[e,uH l _];congr 1;unfold byteAt
   rw[QQ,Int.add_mul_ediv_left _ _ (by have:0<256^l.length:=Nat.pow_pos (by decide)
                                       omega),Int.ediv_eq_zero_of_lt (by omega) (by omega),Int.zero_add]
   rw[show((x.toNat:Int)+256*k)%256=x.toNat from by omega,SW,TV]
theorem xp(l:List UInt8)(n:Nat)(h:l.length=n):beB n (numN l:Nat)=l:=by
 subst h
 have:=uH l 0;rwa[Int.mul_zero,Wh] at this
theorem JU(l:List UInt8):∃ k:Int,kf l=(numN l:Int)+18446744073709551616*k:=by
 generalize hn:l.length=n
 induction n generalizing l with
 |zero=>rw[U4.1 hn];exact⟨0,rfl⟩
 | succ n ih=>
   have e:l=l.take (n+1):=by rw[←hn,RU]
   obtain⟨k,hk⟩:=ih (l.take n) (by rw[RH];omega);have h1:=nf l n (by omega);have h2:=wH l n (by omega);rw[←e] at h1 h2;rw[h1,h2,hk,eD];refine⟨(((numN (l.take n):Int)+18446744073709551616*k)*256+(l.getD n 0).toNat-(numN (l.take n)*256+(l.getD n 0).toNat:Nat)-18446744073709551616*((((numN (l.take n):Int)+18446744073709551616*k)*256+(l.getD n 0).toNat+9223372036854775808)/18446744073709551616))/18446744073709551616,?_⟩;omega
theorem QU(l:List UInt8)(h:l.length=8):beB 8 (kf l)=l:=by
 obtain⟨k,hk⟩:=JU l
 have:=uH l k;rw[h] at this;rw[hk];exact this
theorem vJ(x:UInt8):byteAt 0 (x.toNat:Int)=x:=by have h:=x.toNat_lt;unfold byteAt;simp only[Nat.mul_zero,Int.pow_zero,Int.ediv_one];rw[show((x.toNat:Int))%256=x.toNat from by omega,SW,TV]
theorem xN{b:List UInt8}(h:dK b):bF (dZ b)=b:=by
 unfold dK at h;have l1:(b.take 8).length=8:=by rw[RH];omega
 have l2:((b.drop 9).take 4).length=4:=by rw[RH,RL];omega
 have l3:((b.drop 13).take 4).length=4:=by rw[RH,RL];omega
 have l4:((b.drop 17).take 4).length=4:=by rw[RH,RL];omega
 have l5:((b.drop 22).take (bP b)).length=bP b:=by rw[RH,RL];omega
 have l6:((b.drop (22+bP b)).take 2).length=2:=by rw[RH,RL];omega
 have l7:(b.drop (24+bP b)).length=bD b:=by rw[RL];omega
 unfold bF b7 b6 b5 dZ;simp only[l5,l7];rw[QU _ l1,xp _ 4 l2,xp _ 4 l3,xp _ 4 l4,vJ];rw[show((bP b:Nat):Int)=((b.getD 21 0).toNat:Int) from rfl,vJ];rw[show bD b=numN ((b.drop (22+bP b)).take 2) from rfl,xp _ 2 l6];have one (k:Nat) (hk:k<b.length):[b.getD k 0]=(b.drop k).take 1:=by rw[SU hk,Ru,Rv hk];rfl
 rw[one 8 (by omega),one 21 (by omega)];have j (m n k:Nat) (hk:m+n=k):b.take m++(b.drop m).take n=b.take k:=by subst hk;exact VZ.symm
 rw[j 8 1 9 rfl,j 9 4 13 rfl,j 13 4 17 rfl,j 17 4 21 rfl,j 21 1 22 rfl,j 22 (bP b) (22+bP b) rfl,j (22+bP b) 2 (24+bP b) (by omega),SA]
theorem Bi{s:List UInt8}(h:(cb s).2.2=0):¬ dw s∧¬ dU s∧¬ gF s∧dK (sB s)∧aT (dZ (sB s))=0:=by
 by_cases h1:dw s
 ·rw[qq h1] at h;cases h
 by_cases h2:dU s
 ·rw[tl h1 h2] at h;cases h
 by_cases h3:gF s
 ·rw[yZ h1 h2 h3] at h;cases h
 by_cases h4:dK (sB s)
 case neg=>rw[qM h1 h2 h3 h4] at h;cases h
 by_cases h5:aT (dZ (sB s))=0
 ·exact⟨h1,h2,h3,h4,h5⟩
 ·rw[yK h1 h2 h3 h4 h5] at h;exact absurd h h5
theorem Jt{s:List UInt8}(h:(cb s).2.2=0):cE (cb s).1=(s.take (sN s+7),0):=by
 obtain⟨h1,h2,h3,h4,h5⟩:=Bi h;rw[va h1 h2 h3 h4 h5];unfold dw at h1;unfold dU at h2;unfold gF at h3;have h3':numN ((s.drop (sN s+3)).take 4)=lY (s.take (sN s+3)):=R4 h3;have h84:s.getD 0 0=84:=R4 fun e=>h1 (.inr e)
 have hl:((bF (dZ (sB s))).length:Int)=(sN s:Nat):=by rw[xN h4];unfold sB;rw[RH,RL];omega
 have l2:((s.drop 1).take 2).length=2:=by rw[RH,RL];omega
 have l4:((s.drop (sN s+3)).take 4).length=4:=by rw[RH,RL];omega
 have one:[(84:UInt8)]=s.take 1:=by
  rw[←h84,Ru,Rv (by omega)];rcases s with _|⟨x,s⟩
  ·simp at h1
  ·rfl
 have j (m n k:Nat) (hk:m+n=k):s.take m++(s.drop m).take n=s.take k:=by subst hk;exact VZ.symm
 have hh:dr (dZ (sB s))=s.take (sN s+3):=by unfold dr;rw[hl,xN h4,one,show sN s=numN ((s.drop 1).take 2) from rfl,xp _ 2 l2,j 1 2 3 rfl];exact j 3 _ _ (by rw[TD];rfl)
 unfold cE;rw[Rx h5];unfold pO;rw[hh,←h3',xp _ 4 l4,j (sN s+3) 4 (sN s+7) rfl]
def encs(l:List ATxn):List UInt8:=(l.map fun t=>(cE t).1).flatten
theorem fF:encs []=[]:=rfl
theorem iP(l:List ATxn)(t:ATxn):encs (l++[t])=encs l++(cE t).1:=by unfold encs;simp
theorem xn(l:List ATxn)(k:Nat)(h:k<l.length):encs (l.take (k+1))=encs (l.take k)++(cE (l.getD k default)).1:=by rw[aN l k h,iP]
def logOk(l:List ATxn):Prop:=(∀ k,k+1<l.length→(l.getD k default).zxid<(l.getD (k+1) default).zxid)∧∀ t,t∈l→aT t=0
theorem nk:logOk []:=⟨fun k h=>by simp at h,fun t h=>by cases h⟩
theorem kZ{l:List ATxn}{t:ATxn}(h:logOk l)(hz:0<l.length→aA l<t.zxid)(ht:aT t=0):logOk (l++[t]):=by
 have g1:∀ j,j<l.length→(l++[t]).getD j default=l.getD j default:=fun j hj=>by rw[Ru,RO hj,Ru]
 have g2:(l++[t]).getD l.length default=t:=by simp[Ru]
 refine⟨fun k hk=>?_,fun x hx=>?_⟩
 ·rw[Ry,Sj] at hk
  rw[g1 k (by omega)]
  by_cases e:k+1=l.length
  ·rw[e,g2]
   have:=hz (by omega);rw[dQ (by omega),show l.length-1=k from by omega] at this;exact this
  ·rw[g1 _ (by omega)];exact h.1 k (by omega)
 ·rcases Sh.1 hx with h1|h1
  ·exact h.2 x h1
  ·rw[SM.1 h1];exact ht
theorem jz{l:List ATxn}(h:logOk l){i:Nat}:∀{j:Nat},i<j→j<l.length→(l.getD i default).zxid<(l.getD j default).zxid
 |0,h1,_=>by omega
 | j+1,h1,h2=>by
   by_cases e:i=j
   ·subst e;exact h.1 i h2
   ·exact Wg (jz h (by omega) (by omega)) (h.1 j h2)
theorem A1(s:List UInt8):∀(f at_:Nat) (l:List ATxn),logOk l→encs l=s.take at_→at_≤s.length→logOk (fS s f at_ l).1∧encs (fS s f at_ l).1=s.take (fS s f at_ l).2∧(fS s f at_ l).2≤s.length
 |0,at_,l,h1,h2,h3=>⟨h1,h2,h3⟩
 | f + 1,at_,l,h1,h2,h3=>by
   by_cases hc:(cb (s.drop at_)).2.2≠0∨(0<l.length∧(cb (s.drop at_)).1.zxid≤aA l)
   ·rw[fR hc];exact⟨h1,h2,h3⟩
   ·have hz:(cb (s.drop at_)).2.2=0:=R4 fun h=>hc (.inl h)
    have hr:¬ (0<l.length∧(cb (s.drop at_)).1.zxid≤aA l):=fun h=>hc (.inr h)
    rcases jo (s.drop at_) with⟨c,_⟩|⟨_,c2,c3,_,c5⟩
    ·exact absurd hz c
    rw[gP hz hr c2];rw[RL] at c3;refine A1 s f _ _ (kZ h1 (fun h0=>?_) c5) ?_ (by omega)
    ·exact Int.not_le.1 fun h=>hr ⟨h0,h⟩
    ·rw[iP,h2,Jt hz];exact VZ.symm
theorem p9(s:List UInt8):logOk (scanT s).1∧encs (scanT s).1=s.take (scanT s).2∧(scanT s).2≤s.length:=A1 s _ 0 [] nk rfl (RI _)
def keepL(l:List ATxn)(z:Int):List ATxn:=l.filter fun t=>decide (t.zxid≤z)
theorem uj{l:List ATxn}{z:Int}{k:Nat}(hr:logOk l)(hk:k≤l.length)(h1:∀ j,j<k→(l.getD j default).zxid≤z)(h2:k<l.length→z<(l.getD k default).zxid):keepL l z=l.take k:=by
 unfold keepL
 conv=>lhs;rw[←SA k l]
 rw[Sn]
 have e1:(l.take k).filter (fun t=>decide (t.zxid≤z))=l.take k:=by
  rw[SI];intro t ht;obtain⟨j,hj,rfl⟩:=SF.1 ht
  have:=h1 j (by omega);rw[Ru,Rv (by omega)] at this;simpa using this
 have e2:(l.drop k).filter (fun t=>decide (t.zxid≤z))=[]:=by
  rw[Tu];intro t ht;obtain⟨j,hj,rfl⟩:=S2.1 ht;have a:=h2 (by omega)
  have:z<(l.getD (k+j) default).zxid:=by
   by_cases e:j=0
   ·subst e;exact a
   ·exact Wg a (jz hr (by omega) (by omega))
  rw[Ru,Rv (by omega)] at this;simpa using this
 rw[e1,e2,R5]
theorem vk(l:List ATxn)(z:Int)(k:Nat)(h:k<l.length):keepL (l.take (k+1)) z=if(l.getD k default).zxid≤z then keepL (l.take k) z++[l.getD k default] else keepL (l.take k) z:=by
 unfold keepL;rw[aN l k h,Sn]
 by_cases e:(l.getD k default).zxid≤z
 ·rw[Rx e,SQ (by simpa using e)];rfl
 ·rw[Rw e,Sr (by simpa using e),SR,R5]
theorem H5{l:List ATxn}{k:Nat}:encs (l.take k)=(encs l).take (encs (l.take k)).length:=by
 conv=>rhs;rw[show encs l=encs (l.take k)++encs (l.drop k) from by unfold encs;rw[←Vx,←Sb,SA]]
 rw[Ui];rfl
theorem nm(l:List AFile)(k:Nat):(l.map AFile.name).getD k []=(l.getD k default).name:=cV AFile.name l k default
theorem iO{l:List AFile}:bE l=true↔l.length≤16∧∀ k,k<l.length→tI l k:=by unfold bE;rw[RB]
theorem G1{l:List AFile}{p:Nat}{x:AFile}(h:bE l=true)(hn:x.name=(l.getD p default).name)(hl:x.safe.length+x.tail.length≤1048576):bE (l.set p x)=true:=by
 rw[iO] at h ⊢
 have g (j:Nat):((l.set p x).getD j default).name=(l.getD j default).name:=by
  simp only[Ru,Tc];split
  ·rename_i e;subst e
   split
   ·exact hn
   ·rename_i h2;rw[RX (by omega)]
  ·rfl
 refine⟨by rw[RQ];exact h.1,fun k hk=>?_⟩;rw[RQ] at hk;obtain⟨a,b⟩:=h.2 k hk;refine⟨⟨by rw[g];exact a.1,?_⟩,by rw[g,g];exact b⟩;simp only[Ru,Tc];split
 ·rename_i e;subst e
  split
  ·exact hl
  ·omega
 ·simpa only[Ru] using a.2
theorem Jk{ns:List (List UInt8)}{key:List UInt8}{k:Nat}(h:k<place ns key):ns.getD k []<key:=by
 have hl:=fc ns key
 have:=T4 (p:=fun x=>!decide (x<key)) (xs:=ns) h;rw[Ru,Rv (by omega)];simpa using this
theorem Ih{ns:List (List UInt8)}{key:List UInt8}(h:place ns key<ns.length):¬ ns.getD (place ns key) []<key:=by have:=Un (p:=fun x=>!decide (x<key)) (xs:=ns) (w:=h);rw[SN,RT] at this;rw[Ru,Rv h];exact this
theorem oh{α:Type}(l:List α)(i k:Nat)(x z:α)(h:i≤l.length)(hk:i<k):(l.insertIdx i x).getD k z=l.getD (k-1) z:=by rw[cT _ _ _ h,Ru,RG (by rw[RH];omega),RH,Sq h,show k-i=(k-i-1)+1 from by omega,Th,Sz,Ru];congr 2;omega
theorem Gm{l:List AFile}{key:List UInt8}{x:AFile}(h:bE l=true)(hx:x.name=key)(hm:¬ key∈l.map AFile.name)(hn:aU key=true)(hf:l.length<16)(hs:x.safe.length+x.tail.length≤1048576):bE (l.insertIdx (place (l.map AFile.name) key) x)=true:=by
 have hr:=bT h;have hp:=iR (l:=l) (key:=key);have lo:∀ j,j<place (l.map AFile.name) key→(l.getD j default).name<key:=fun j hj=>by rw[←nm];exact Jk hj
 have hi:∀ j,place (l.map AFile.name) key≤j→j<l.length→key<(l.getD j default).name:=fun j h1 h2=>by
  have a:=Ih (ns:=l.map AFile.name) (key:=key) (by rw[RC];omega);have b:key<(l.map AFile.name).getD (place (l.map AFile.name) key) []:=gL a fun e=>hm (by rw[←e];exact bs _ _ (by rw[RC];omega))
  by_cases e:place (l.map AFile.name) key=j
  ·rw[←nm,←e];exact b
  ·have:=aV hr (i:=place (l.map AFile.name) key) (j:=j) (by omega) (by rw[RC];omega)
   rw[nm l j] at this;exact S9 b this
 generalize place (l.map AFile.name) key=p at *
 rw[iO] at h ⊢;refine⟨by rw[dB _ _ _ hp];omega,fun k hk=>?_⟩;rw[dB _ _ _ hp] at hk;rcases TC k p with hkp|hkp|hkp
 ·obtain⟨a,b⟩:=h.2 k (by omega)
  refine⟨?_,fun h0=>?_⟩
  ·rw[dI _ _ _ _ _ hp hkp];exact a
  ·rw[dI _ _ _ _ _ hp hkp,dI _ _ _ _ _ hp (by omega)];exact b h0
 ·subst hkp
  refine⟨?_,fun h0=>?_⟩
  ·rw[gr _ _ _ _ hp];exact⟨by rw[hx];exact hn,hs⟩
  ·rw[gr _ _ _ _ hp,dI _ _ _ _ _ hp (by omega),hx];exact lo _ (by omega)
 ·obtain⟨a,b⟩:=h.2 (k-1) (by omega)
  refine⟨?_,fun h0=>?_⟩
  ·rw[oh _ _ _ _ _ hp hkp];exact a
  ·rw[oh _ _ _ _ _ hp hkp]
   by_cases e:k-1=p
   ·rw[e,gr _ _ _ _ hp,hx];exact hi _ (RE _) (by omega)
   ·rw[oh _ _ _ _ _ hp (by omega)];exact b (by omega)
def recoverD(l:List AFile):List ATxn×XQ×Int:=
 if(readD l logN).2=7 then(if(aD l logN []).2=0 then([],(aD l logN []).1,0) else([],default,(aD l logN []).2))
 else if(readD l logN).2=0 then((scanT (readD l logN).1).1,(bj l logN (jF (scanT (readD l logN).1).2)).1,0)
 else([],default,(readD l logN).2)
theorem kL{l:List AFile}(key:List UInt8):(readD l key).1.length≤1048576:=by
 unfold readD;split
 ·decide
 ·rename_i hg
  split
  ·rename_i hm
   have hg':bE l=true:=by simpa using hg
   have hp:=dA hg' hm
   have:=((iO.1 hg').2 _ hp).1.2;simp only[Ry];exact this
  ·decide
theorem rn{l:List AFile}{key:List UInt8}(h:(readD l key).2=0):bE l=true∧key∈l.map AFile.name∧(readD l key).1=(l.getD (place (l.map AFile.name) key) default).safe++(l.getD (place (l.map AFile.name) key) default).tail:=by
 unfold readD at h ⊢;split at h
 ·cases h
 ·rename_i hg
  split at h
  ·rename_i hm
   rw[Rw hg,Rx hm];exact⟨by simpa using hg,hm,rfl⟩
  ·cases h
theorem CZ{l:List AFile}{key:List UInt8}(h:(readD l key).2=7):bE l=true∧¬ key∈l.map AFile.name:=by
 unfold readD at h;split at h
 ·cases h
 ·rename_i hg
  split at h
  ·cases h
  ·rename_i hm;exact⟨by simpa using hg,hm⟩
theorem HI{l:List AFile}{key:List UInt8}{n:Nat}(hg:bE l=true)(hm:key∈l.map AFile.name)(hn:n≤((l.getD (place (l.map AFile.name) key) default).safe++(l.getD (place (l.map AFile.name) key) default).tail).length) :
  bj l key (jF n)=(⟨l.set (place (l.map AFile.name) key) ⟨key,((l.getD (place (l.map AFile.name) key) default).safe++(l.getD (place (l.map AFile.name) key) default).tail).take n,[]⟩⟩,0):=by
 have e:jF n (l.getD (place (l.map AFile.name) key) default)=(⟨(l.getD (place (l.map AFile.name) key) default).name,((l.getD (place (l.map AFile.name) key) default).safe++(l.getD (place (l.map AFile.name) key) default).tail).take n,[]⟩,0):=by rw[Ry] at hn;unfold jF;rw[Rw (by omega),SW]
 rw[gc hg hm (by rw[e]),e]
 have:=(ag (bT hg) hm).2;rw[nm] at this;simp only[this]
theorem mW{l:List AFile}(h:(readD l logN).2=0):(bj l logN (jF (scanT (readD l logN).1).2))=(⟨l.set (place (l.map AFile.name) logN) ⟨logN,encs (scanT (readD l logN).1).1,[]⟩⟩,0):=by obtain⟨a,b,c⟩:=rn h;obtain⟨d1,d2,d3⟩:=p9 (readD l logN).1;rw[HI a b (by rw[←c];exact d3),←c,←d2]
theorem gI:aU logN=true:=by decide
theorem Ly{α:Type}(l:List α)(p:Nat)(x z:α)(h:p<l.length):(l.set p x).getD p z=x:=by rw[Ru,TG h];rfl
theorem ya{l:List AFile}{p:Nat}{x:AFile}(h:x.name=(l.getD p default).name):(l.set p x).map AFile.name=l.map AFile.name:=by
 apply SD;intro j;rw[RF,RF,Tc];split
 ·rename_i e;subst e
  split
  ·rename_i h2;rw[Ru,Rv h2] at h;rw[Rv h2];simp[h]
  ·rename_i h2;rw[RX (by omega)]
 ·rfl
structure RecOk (l:List AFile) (r:List AFile) (L:List ATxn):Prop where
 good:bE r=true
 mem:logN∈r.map AFile.name
 file:r.getD (place (r.map AFile.name) logN) default=⟨logN,encs L,[]⟩
 ok:logOk L
 len:(encs L).length≤1048576
 cnt:L.length≤1048577
 wf:(∀ f,f∈l→f.wf)→∀ f,f∈r→f.wf
theorem CJ{l:List AFile}(h:bE l=true):l.length*48≤140737488351232:=by have:=pL h;omega
theorem jm{l:List AFile}(h:(recoverD l).2.2=0):RecOk l (recoverD l).2.1.files (recoverD l).1:=by
 unfold recoverD at h ⊢
 by_cases h7:(readD l logN).2=7
 ·rw[Rx h7] at h ⊢
  by_cases hw:(aD l logN []).2=0
  ·rw[Rx hw]
   obtain⟨a,b⟩:=CZ h7;have hwf:=fun h0=>cL (l:=l) (s:=[]) gy h0
   unfold aD at hw ⊢ hwf;rw[Rw (by simp[a]),Rw (by simp[gI]),Rw b] at hw ⊢ hwf;split at hw
   ·cases hw
   rename_i h16;rw[Rw h16,Rw (by decide)] at hwf ⊢;have hpl:=iR (l:=l) (key:=logN);have hg:=Gm (x:=⟨logN,[],[]⟩) a rfl b gI (by omega) (by decide);have hnm:((l.insertIdx (place (l.map AFile.name) logN) (⟨logN,[],[]⟩:AFile)).map AFile.name).getD (place (l.map AFile.name) logN) []=logN:=by rw[nm,gr _ _ _ _ hpl]
   have hlt:place (l.map AFile.name) logN<((l.insertIdx (place (l.map AFile.name) logN) (⟨logN,[],[]⟩:AFile)).map AFile.name).length:=by rw[RC,dB _ _ _ hpl];omega
   have hpe:=pW (bT hg) hlt;rw[hnm] at hpe;refine⟨hg,?_,?_,nk,(RI 1048576),(RI 1048577),hwf⟩
   ·have:=bs _ [] hlt
    rw[hnm] at this;exact this
   ·show(l.insertIdx _ _).getD (place ((l.insertIdx _ _).map AFile.name) logN) default=_
    rw[hpe,gr _ _ _ _ hpl];rfl
  ·rw[Rw hw] at h;exact absurd h hw
 ·rw[Rw h7] at h ⊢
  by_cases h0:(readD l logN).2=0
  ·rw[Rx h0] at h ⊢
   rw[mW h0];obtain⟨a,b,c⟩:=rn h0;obtain⟨d1,d2,d3⟩:=p9 (readD l logN).1;have hlen:=kL (l:=l) logN;have he:(encs (scanT (readD l logN).1).1).length≤1048576:=by rw[d2,RH];omega
   have hp:=dA a b;have hn:=(ag (bT a) b).2;rw[nm] at hn;have hmn:(l.set (place (l.map AFile.name) logN) (⟨logN,encs (scanT (readD l logN).1).1,[]⟩:AFile)).map AFile.name=l.map AFile.name:=ya hn.symm;refine⟨G1 a hn.symm (by simpa using he),?_,?_,d1,he,by have:=ww (readD l logN).1;show(scanT _).1.length≤_;omega,fun hwf f hf=>?_⟩
   ·show logN∈(l.set _ _).map AFile.name
    rw[hmn];exact b
   ·show(l.set _ _).getD (place ((l.set _ _).map AFile.name) logN) default=_
    rw[hmn,Ly _ _ _ _ hp]
   ·rcases S1 hf with h1|h1
    ·exact hwf f h1
    ·subst h1;exact⟨gy,by show okS (encs (scanT (readD l logN).1).1);unfold okS;omega,by show okS [];unfold okS;decide⟩
  ·rw[Rw h0] at h;exact absurd h h0
theorem lq{l:List AFile}:(recoverD l).2.1.files.length*48≤140737488351232:=by
 unfold recoverD;split
 ·split
  ·exact ia
  ·exact(by decide:([]:List AFile).length*48≤140737488351232)
 ·split
  ·rename_i h0
   rw[mW h0]
   have:=CJ (rn h0).1;show(l.set _ _).length*48≤_;rw[RQ];exact this
  ·exact(by decide:([]:List AFile).length*48≤140737488351232)
theorem rQ(l:List AFile):(recoverD l).1.length*72≤140737488351232:=by
 unfold recoverD;split
 ·split<;>exact(by decide:([]:List ATxn).length*72≤140737488351232)
 ·split
  ·have a:=ww (readD l logN).1
   have b:=kL (l:=l) logN;simp only;omega
  ·exact(by decide:([]:List ATxn).length*72≤140737488351232)
theorem Of{l:List AFile}(h:(readD l logN).2=7)(h2:¬ (aD l logN []).2=0):recoverD l=([],default,(aD l logN []).2):=by unfold recoverD;rw[Rx h,Rw h2]
theorem Oj{l:List AFile}(h:(readD l logN).2=7)(h2:(aD l logN []).2=0):recoverD l=([],(aD l logN []).1,0):=by unfold recoverD;rw[Rx h,Rx h2]
theorem N9{l:List AFile}(h:¬ (readD l logN).2=7)(h2:¬ (readD l logN).2=0):recoverD l=([],default,(readD l logN).2):=by unfold recoverD;rw[Rw h,Rw h2]
theorem H2{l:List AFile}(h:¬ (readD l logN).2=7)(h2:(readD l logN).2=0):recoverD l=((scanT (readD l logN).1).1,(bj l logN (jF (scanT (readD l logN).1).2)).1,0):=by unfold recoverD;rw[Rw h,Rx h2]
theorem qp(d:XQ)(h:d.files.length*48≤140737488351232)(hw:∀ f,f∈d.files→f.wf):ab Tryz.prog [] 37 [d.av] (ret (.tup [.d (.sl 7 ((recoverD d.files).1.map ATxn.row)),(recoverD d.files).2.1.av,I (recoverD d.files).2.2])):=by
 have hr:=LA d logN h hw;have hs:=OK _ (kL (l:=d.files) logN);have hcut:=N6 d logN (scanT (readD d.files logN).1).2 h hw;have hwr:=yu d logN [] (by unfold okS;decide) gy h hw;refine zJ Tryz.func37 Tryz.ntmps37 Tryz.results37 ?_;simp only[go_sem]
 (refine zW qw (z4 hr hwr hs hcut) @logN.eq_1 (zc ?_ (z4 ?_ ?_ ?_ ?_))<;>(repeat with_reducible intro hc))
 ·rw[Of (by assumption) (by assumption)];exact zEe (zx @logN.eq_1 dfl)
 ·rw[Oj (by assumption) (by assumption)];exact zEe (zx @logN.eq_1 dfl)
 ·rw[N9 (by assumption) (by assumption)];exact zEe (zx @logN.eq_1 dfl)
 ·have e:=mW (l:=d.files) (by assumption)
  exact absurd (congrArg Prod.snd e) hc
 ·rw[H2 (by assumption) (by assumption)];exact zEe @logN.eq_1
theorem jZ(d:XQ)(h:d.files.length*48≤140737488351232)(hw:∀ f,f∈d.files→f.wf):ab Tryz.prog [] 88 [d.av] (ret (.tup [.d (.sl 7 ((recoverD d.files).1.map ATxn.row)),(recoverD d.files).2.1.av,I (recoverD d.files).2.2])):=by
 have hr:=vH d logN h hw;have hs:=Di _ (kL (l:=d.files) logN);have hcut:=Hq d logN (scanT (readD d.files logN).1).2 h hw;have hwr:=m5 d logN [] (by unfold okS;decide) gy h hw;refine zJ Tryz.func88 Tryz.ntmps88 Tryz.results88 ?_;simp only[go_sem]
 (refine zW qw (z4 hr hwr hs hcut) @logN.eq_1 (z4 ?_ ?_ ?_ ?_)<;>(repeat with_reducible intro hc))
 ·rw[Of (by assumption) (by assumption)];exact zEe (zx @logN.eq_1 dfl)
 ·rw[Oj (by assumption) (by assumption)];exact zEe (zx @logN.eq_1 dfl)
 ·rw[N9 (by assumption) (by assumption)];exact zEe (zx @logN.eq_1 dfl)
 ·rw[H2 (by assumption) (by assumption)]
  have e:=congrArg Prod.snd (mW (l:=d.files) (by assumption));have e':(bj d.files [108,111,103] (jF (scanT (readD d.files [108,111,103]).1).2)).2=0:=e;exact zEe (zx @logN.eq_1 @e')
def keepD(l:List AFile)(z:Int):XQ×Int:=
 if(recoverD l).2.2=0 then(⟨(recoverD l).2.1.files.set (place ((recoverD l).2.1.files.map AFile.name) logN) ⟨logN,encs (keepL (recoverD l).1 z),[]⟩⟩,0) else(default,(recoverD l).2.2)
theorem yt{l:List AFile}{z:Int}(h:¬ (recoverD l).2.2=0):keepD l z=(default,(recoverD l).2.2):=by unfold keepD;rw[Rw h]
theorem pk{l:List AFile}{z:Int}(h:(recoverD l).2.2=0):keepD l z=(⟨(recoverD l).2.1.files.set (place ((recoverD l).2.1.files.map AFile.name) logN) ⟨logN,encs (keepL (recoverD l).1 z),[]⟩⟩,0):=by unfold keepD;rw[Rx h]
theorem zy{l:List AFile}{z:Int}:(keepD l z).1.files.length*48≤140737488351232:=by
 unfold keepD;split
 ·have:=lq (l:=l)
  show(List.set _ _ _).length*48≤_;rw[RQ];exact this
 ·exact(by decide:([]:List AFile).length*48≤140737488351232)
theorem gV(l:List ATxn)(k:Nat):(encs (l.take k)).length≤(encs l).length:=by
 have:encs l=encs (l.take k)++encs (l.drop k):=by unfold encs;rw[←Vx,←Sb,SA]
 rw[this,Ry];omega
theorem mG(p:ATxn→Bool):∀ l:List ATxn,(encs (l.filter p)).length≤(encs l).length
 |[]=>RE _
 | t::l=>by
   have ih:=mG p l;have e (x:ATxn) (r:List ATxn):(encs (x::r)).length=(cE x).1.length+(encs r).length:=by unfold encs;simp
   by_cases h:p t=true
   ·rw[SQ h,e,e];omega
   ·rw[Sr h,e];omega
theorem Gq(L:List ATxn)(z:Int)(k:Nat):(encs (keepL (L.take k) z)).length≤(encs L).length:=
 RW (mG _ _) (gV L k)
theorem JJ{l:List AFile}{z:Int}{k:Nat}(h:(recoverD l).2.2=0)(hk:k≤(recoverD l).1.length)(h1:∀ j,j<k→((recoverD l).1.getD j default).zxid≤z)(h2:k<(recoverD l).1.length→z<((recoverD l).1.getD k default).zxid) :
  bj (recoverD l).2.1.files logN (jF (encs ((recoverD l).1.take k)).length)=keepD l z:=by
 have o:=jm h;have hl:=gV (recoverD l).1 k;rw[pk h,HI o.good o.mem (by rw[o.file];simpa using hl),o.file,uj o.ok hk h1 h2];simp only[R5];rw[←H5]
theorem Ei{l:List AFile}(h:(recoverD l).2.2=0){k:Nat}(hk:k<(recoverD l).1.length):aT ((recoverD l).1.getD k default)=0:=(jm h).ok.2 _ (aZ _ _ hk)
theorem O1(d:XQ)(z:Int)(h:d.files.length*48≤140737488351232)(hw:∀ f,f∈d.files→f.wf):ab Tryz.prog [] 183 [d.av,I z] (ret (.tup [(keepD d.files z).1.av,I (keepD d.files z).2])):=by
 by_cases h0:(recoverD d.files).2.2=0
 case neg=>
  rw[yt h0];refine zJ Tryz.func183 Tryz.ntmps183 Tryz.results183 ?_;simp only[go_sem]
  (refine zW qw (z1 (qp d h hw)) X5 (z1 ?_)<;>(repeat with_reducible intro hc))
  all_goals try exact zk1
  exact zEe dfl
 have o:=jm h0;have hrc:=qp d h hw;rw[h0] at hrc;have hcnt:=rQ d.files;have hcuts (n:Nat):=N6 (recoverD d.files).2.1 logN n lq (o.wf hw);have htx (k:Nat) (hk:k<(recoverD d.files).1.length):=Ei h0 hk;have hkc (k:Nat) (hk:k≤(recoverD d.files).1.length):=JJ (z:=z) h0 hk;have hlen:=o.len;generalize hR:(recoverD d.files).2.1=R at hrc hcuts hkc;generalize hL:(recoverD d.files).1=L at hrc hcnt htx hkc hlen;refine zJ Tryz.func183 Tryz.ntmps183 Tryz.results183 ?_;simp only[go_sem]
 (refine zW qw (z1 hrc) X5 (z1 ?_)<;>(repeat with_reducible intro hc))
 refine WQ (ι:=Nat) (fun k=>k≤L.length∧∀ j,j<k→(L.getD j default).zxid≤z) (fun k=>L.length-k) [1,2,4,23,24] (fun k=>[(25,I k),(8,I (encs (L.take k)).length)]) (fun k=>[.cells [.d (.sl 3 (R.files.map AFile.row))],.cells [.d (.sc (.slice none 0 0))]]) 0 ?_ ?_ ?_
 ·exact⟨by omega,fun j hj=>by omega⟩
 ·simp only[go_sem,S4,fF];exact zSm X5
 intro k ⟨hk,hk2⟩;simp only[go_sem]
 by_cases hkl:k<L.length
 ·have hg:=htx k hkl
  obtain⟨s1,s2⟩:=ga hg;obtain⟨e1,e2⟩:=sK hg;have he:=tB (L.getD k default) (by unfold okS;omega) (by unfold okS;omega);have hlt:=gV L (k+1);rw[xn L k hkl,Ry] at hlt;rw[e2] at he
  (refine zW qw (z2 he (hcuts (encs (L.take k)).length)) @logN.eq_1 (z2 ?_ ?_)<;>(repeat with_reducible intro hc))
  ·have e:bj R.files [108,111,103] (jF (encs (L.take k)).length)=keepD d.files z:=hkc k hk hk2 (fun _=>hc)
   exact zEe @e
  ·refine⟨k+1,⟨by omega,fun j hj=>?_⟩,by omega,?_⟩
   ·by_cases ej:j=k
    ·subst ej;exact hc
    ·exact hk2 j (by omega)
   rw[xn L k hkl,Ry];exact zFr [0,1] @Si
 ·(refine zW qw (z1 (hcuts (encs (L.take k)).length)) @logN.eq_1 (z1 ?_)<;>(repeat with_reducible intro hc))
  have e:bj R.files [108,111,103] (jF (encs (L.take k)).length)=keepD d.files z:=hkc k hk hk2 (fun h=>by omega);exact zEe @e
theorem FV{t:ATxn}(h:aT t=0):okI t.zxid:=by
 by_cases h1:t.op<1∨5<t.op
 ·rw[pY h1] at h;cases h
 by_cases h2:lV t=true
 ·have:=((eF t).1 h2).1
  unfold bd at this;unfold okI;omega
 ·rw[fX (by omega) h2] at h;cases h
theorem Dr(d:XQ)(z:Int)(h:d.files.length*48≤140737488351232)(hw:∀ f,f∈d.files→f.wf):ab Tryz.prog [] 154 [d.av,I z] (ret (.tup [(keepD d.files z).1.av,I (keepD d.files z).2])):=by
 by_cases h0:(recoverD d.files).2.2=0
 case neg=>
  rw[yt h0];refine zJ Tryz.func154 Tryz.ntmps154 Tryz.results154 ?_;simp only[go_sem]
  (refine zW qw (z1 (jZ d h hw)) X5 (z1 ?_)<;>(repeat with_reducible intro hc))
  all_goals try exact zk1
  exact zEe dfl
 have o:=jm h0;have hrc:=jZ d h hw;rw[h0] at hrc;have hcnt:=rQ d.files;have htx (k:Nat) (hk:k<(recoverD d.files).1.length):=Ei h0 hk;have hlen:=o.len;have hfile:=(file_c (recoverD d.files).2.1 logN lq o.good).re (by rw[fileI_yes o.mem]);have hcopy:=bV (recoverD d.files).2.1 lq;have hky:=pk (z:=z) h0;have hplt:=dA o.good o.mem;generalize hR:(recoverD d.files).2.1=R at hrc hfile hcopy hky hplt;generalize hL:(recoverD d.files).1=L at hrc hcnt htx hlen hky;rw[hky];have hkl (k:Nat) (hk:k≤L.length):(encs (keepL (L.take k) z)).length≤1048576:=RW (Gq L z k) hlen;refine zJ Tryz.func154 Tryz.ntmps154 Tryz.results154 ?_;simp only[go_sem]
 (refine zW qw (z1 hrc) X5 (z1 ?_)<;>(repeat with_reducible intro hc))
 refine WQ (ι:=Nat) (fun k=>k≤L.length) (fun k=>L.length-k) [1,2,4,24,25] (fun k=>[(26,I k),(8,S (encs (keepL (L.take k) z)))]) (fun k=>[.cells [.d (.sl 3 (R.files.map AFile.row))],.cells [.d (.sc (.slice none 0 0))]]) 0 ?_ ?_ ?_
 ·omega
 ·simp only[go_sem,S4,keepL,SR,fF];exact zSm X5
 intro k hk;have hb:=hkl k hk;simp only[go_sem]
 by_cases hkl:k<L.length
 ·have hg:=htx k hkl
  obtain⟨s1,s2⟩:=ga hg;obtain⟨e1,e2⟩:=sK hg;have he:=kW (L.getD k default) (FV hg) (by omega) (by unfold okS;omega);unfold okS at e1;rw[e2] at he
  (refine zW qw (z1 he) @logN.eq_1 (z2 ?_ ?_)<;>(repeat with_reducible intro hc))
  ·refine⟨k+1,by omega,by omega,?_⟩
   rw[vk L z k hkl,Rx hc,iP];exact zFr [0,1] X5
  ·refine⟨k+1,by omega,by omega,?_⟩
   rw[vk L z k hkl,Rw (by omega)];exact zFr [0,1] X5
 ·have ek:k=L.length:=by omega
  subst ek;rw[RU] at *
  (refine zW qw (z2 hfile hcopy) (zx @logN.eq_1 (zx @AFile.rgetD (zx @bt (zx @AFile.rset (zx @az @List.set_set.{0}))))) (z3 ?_ ?_ ?_)<;>(repeat with_reducible intro hc))
  ·exact Int.ofNat_lt.2 hplt
  ·exact hplt
  exact zEe (zx @logN.eq_1 @bM)
def bU:List (List UInt8)→List UInt8
 |[]=>[]
 |p::ps=>47::(p++bU ps)
def bX(ps:List (List UInt8)):List UInt8:=if ps=[] then[47] else bU ps
theorem qC(a b:List (List UInt8)):bU (a++b)=bU a++bU b:=by
 induction a with
 |nil=>rfl
 |cons p a ih=>simp[bU,ih]
theorem nb(b:List UInt8):splitB (47::b)=[]::splitB b:=by simp[splitB]
theorem iE{c:UInt8}(h:¬ c=47)(r:List UInt8):splitB (c::r)=match splitB r with
  |p::ps=>(c::p)::ps
  |[]=>[[c]]:=by simp only[splitB,Rw h]<;>(cases splitB r<;>rfl)
theorem CT(a b:List UInt8):splitB (a++47::b)=splitB a++splitB b:=by
 induction a with
 |nil=>exact nb b
 | cons c a ih=>
   by_cases h:c=47
   ·subst h
    rw[Ss,nb,nb,ih];rfl
   ·rw[Ss,iE h,iE h,ih]
    cases hs:splitB a with
    |nil=>exact absurd hs (nA a)
    |cons p ps=>rfl
theorem xW{p:List UInt8}(h:(47:UInt8)∉p):splitB p=[p]:=by
 induction p with
 |nil=>rfl
 | cons c p ih=>
   rw[RP,not_or] at h;rw[iE (fun e=>h.1 e.symm),ih h.2]
theorem splitB_join{p:List UInt8}{ps:List (List UInt8)}(hp:(47:UInt8)∉p)(h:∀ q,q∈ps→(47:UInt8)∉q):splitB (p++bU ps)=p::ps:=by
 induction ps generalizing p with
 |nil=>rw[bU,R5,xW hp]
 | cons q ps ih=>
   rw[bU,CT,xW hp,ih (h q (by simp)) (fun x hx=>h x (R6 _ hx))];rfl
theorem zt{ps:List (List UInt8)}(h:∀ q,q∈ps→(47:UInt8)∉q):splitB (bU ps)=[]::ps:=
 splitB_join (p:=[]) (by simp) h
theorem rM:∀(r:List UInt8),∃ q qs,splitB r=q::qs∧r=q++bU qs
 |[]=>⟨[],[],rfl,rfl⟩
 | c :: r=>by
   obtain⟨q,qs,e1,e2⟩:=rM r
   by_cases h:c=47
   ·subst h
    exact⟨[],q::qs,by rw[nb,e1],by rw[e2];rfl⟩
   ·refine⟨c::q,qs,?_,by rw[e2];rfl⟩
    rw[iE h,e1]
theorem mv{p:List UInt8}(h:aU p=true):(47:UInt8)∉p:=by
 intro hm;unfold aU at h;rw[RK,ST] at h
 have:=h.1 _ hm;revert this;decide
def dP(s:List UInt8):List (List UInt8):=if s=[47] then[] else splitB (s.drop 1)
theorem ku{s:List UInt8}(h:br s=true):s=bX (dP s)∧(∀ q,q∈dP s→aU q=true)∧s.length≤200∧∀ q,q∈dP s→(47:UInt8)∉q:=by
 have hl:=nG h
 have key:s=bX (dP s)∧(∀ q,q∈dP s→aU q=true):=by
  unfold dP
  by_cases h47:s=[47]
  ·rw[Rx h47]
   exact⟨by rw[h47];rfl,by simp⟩
  ·rw [Rw h47]
   unfold br at h;rw[RM h47,VX,RK,RK,RB,RB] at h;obtain⟨_,⟨h1,h2⟩,h3⟩:=h;cases s with
   |nil=>simp at h1
   | cons c r=>
     have hc:c=47:=by simpa using h2
     subst hc;obtain⟨q,qs,e1,e2⟩:=rM r;refine⟨?_,fun x hx=>?_⟩
     ·show 47::r=bX (splitB r)
      rw[e1];unfold bX;rw[Rw (by simp),bU,←e2]
     ·unfold cB at h3
      exact ST.1 h3 x hx
 exact⟨key.1,key.2,hl,fun q hq=>mv (key.2 q hq)⟩
theorem uI{ps:List (List UInt8)}(h:ps≠[]):bU ps≠[]:=by
 cases ps with
 |nil=>exact absurd rfl h
 |cons p ps=>simp[bU]
theorem HH{ps:List (List UInt8)}(hn:∀ q,q∈ps→aU q=true):bU ps≠[47]:=by
 cases ps with
 |nil=>simp[bU]
 | cons p ps=>
   intro h;have hp:=hn p (by simp);rw[bU,R8] at h;have h2:=List.append_eq_nil_iff.1 h.2;rw[h2.1] at hp;revert hp;decide
theorem rh{ps:List (List UInt8)}(hn:∀ q,q∈ps→aU q=true):bX ps=[47]↔ps=[]:=by
 unfold bX;split
 ·rename_i h;exact iff_of_true rfl h
 ·rename_i h;exact iff_of_false (HH hn) h
theorem iI{ps:List (List UInt8)}(hn:∀ q,q∈ps→aU q=true):dP (bX ps)=ps:=by
 unfold dP;split
 ·rename_i h;exact((rh hn).1 h).symm
 ·rename_i h
  have h0:ps≠[]:=fun e=>h ((rh hn).2 e)
  unfold bX;rw[Rw h0];cases ps with
  |nil=>exact absurd rfl h0
  | cons p ps=>
    show splitB (p++bU ps)=_;exact splitB_join (mv (hn p (by simp))) fun q hq=>mv (hn q (R6 _ hq))
theorem vX{ps:List (List UInt8)}(h:∀ q,q∈ps→aU q=true)(h0:ps≠[]):splitB (bX ps)=[]::ps:=by unfold bX;rw[Rw h0];exact zt fun q hq=>mv (h q hq)
theorem Cf{ps:List (List UInt8)}(hn:∀ q,q∈ps→aU q=true)(hl:(bX ps).length≤200):br (bX ps)=true:=by
 unfold br
 by_cases h0:ps=[]
 ·subst h0;rfl
 ·have e:=iI hn
  unfold dP at e;rw[Rw (fun h=>h0 ((rh hn).1 h))] at e;rw[decide_eq_true hl,T5];unfold cB;rw[e,ST.2 hn,WG,SC,RB];refine .inr ?_;rw[RB];unfold bX;rw[Rw h0];cases ps with
  |nil=>exact absurd rfl h0
  |cons p ps=>simp[bU]
theorem tD(ps:List (List UInt8))(k:Nat):(bU (ps.take k)).length≤(bU ps).length:=by have:=qC (ps.take k) (ps.drop k);rw[SA] at this;rw[this,Ry];omega
theorem AQ{ps:List (List UInt8)}(k:Nat)(h:(bX ps).length≤200):(bX (ps.take k)).length≤200:=by
 have:=tD ps k;unfold bX at *
 split at h
 ·rename_i e;subst e;simp
 ·split
  ·simp
  ·omega
def splitP(s:List UInt8):(List UInt8×List UInt8)×Int:=if br s=true then(if dP s=[] then(([],[]),7) else((bX ((dP s).take ((dP s).length-1)),(dP s).getD ((dP s).length-1) []),0)) else(([],[]),2)
theorem rm{s:List UInt8}(h:¬ br s=true):splitP s=(([],[]),2):=by unfold splitP;rw[Rw h]
theorem kX:splitP [47]=(([],[]),7):=by rfl
theorem ly{ps:List (List UInt8)}{p:List UInt8}(hn:∀ q,q∈ps++[p]→aU q=true)(hl:(bX (ps++[p])).length≤200):splitP (bX (ps++[p]))=((bX ps,p),0):=by
 unfold splitP;rw[Rx (Cf hn hl),iI hn,Rw (by simp),Ry,Sj,Tq,Ui]
 ·simp
 ·rfl
theorem la{s:List UInt8}(h:br s=true):s=[47]∨∃ ps p,(∀ q,q∈ps++[p]→aU q=true)∧s=bX (ps++[p])∧(bX (ps++[p])).length≤200∧bX (ps++[p])=bU ps++47::p:=by
 obtain⟨h1,h2,h3,h4⟩:=ku h;rcases Vg (dP s) with e|⟨ps,p,e⟩
 ·left;rw[h1,e];rfl
 ·right
  rw[Vh] at e;rw[e] at h1 h2;refine⟨ps,p,h2,h1,by rw[←h1];exact h3,?_⟩;unfold bX;rw[Rw (by simp),qC];simp[bU]
theorem yY(a b:List UInt8)(c:UInt8):(a++c::b).length=a.length+b.length+1:=by simp;omega
theorem C0(a b:List UInt8)(c d:UInt8)(j:Nat)(h:j<b.length):(a++c::b).getD (a.length+b.length-j) d=b.getD (b.length-1-j) d:=by rw[Ru,RG (by omega),show a.length+b.length-j-a.length=(b.length-1-j)+1 from by omega,Th,←Ru]
theorem Cs(a b:List UInt8)(c d:UInt8):(a++c::b).getD a.length d=c:=by rw[Ru,RG (by omega),Tl];rfl
theorem NV(a b:List UInt8)(c:UInt8)(hc:c∉b)(hs:okS (a++c::b)):ab Tryz.prog [] 196 [S (a++c::b),.d (.int .u8 c.toNat)] (ret (I a.length)):=by
 unfold okS at hs;have hlen:=yY a b c;rw[hlen] at hs;have hst:((a.length+b.length+1:Nat):Int)-1=((a.length+b.length:Nat):Int):=by omega
 refine zJ Tryz.func196 Tryz.ntmps196 Tryz.results196 ?_;simp only[go_sem];refine zW qw zn @hlen (z1 ?_);refine WW (ι:=Nat) (fun j=>j≤b.length) (fun j=>b.length-j) [0,1] (fun j=>[(5,I ((a.length+b.length-j:Nat):Int))]) 0 ?_ (by simp(disch:=omega) only[go_sem,aa,hst,R3]) ?_
 ·omega
 intro j hj;simp only[go_sem]
 (refine zW qw zn @hlen (z2 ?_ ?_)<;>(repeat with_reducible intro hc))
 ·by_cases e:j=b.length
  ·subst e
   exact zEe @Tq
  ·have hlt:j<b.length:=by omega
   rw[C0 a b c 0 j hlt] at hc;exfalso;have hb:b.getD (b.length-1-j) 0=c:=UInt8.toNat.inj (Int.ofNat_inj.1 hc);rw[Ru,Rv (by omega)] at hb;have hin:=So (l:=b) (n:=b.length-1-j) (by omega);rw[show b[b.length-1-j]=c from hb] at hin;exact absurd hin (by assumption)
 ·by_cases e:j=b.length
  ·subst e
   exfalso;rw[Tq,Cs] at hc;exact hc rfl
  ·refine⟨j+1,by omega,by omega,?_⟩
   have e1:((a.length+b.length-(j+1):Nat):Int)=((a.length+b.length-j:Nat):Int)-1:=by omega
   rw[e1];exact zSm X5
 all_goals(exfalso;omega)
theorem AY(a b:List UInt8)(c:UInt8)(hc:c∉b)(hs:okS (a++c::b)):ab Tryz.prog [] 136 [S (a++c::b),.d (.int .u8 c.toNat)] (ret (I a.length)):=by refine zJ Tryz.func136 Tryz.ntmps136 Tryz.results136 ?_;simp only[go_sem];refine zW qw (z1 (NV a b c hc hs)) X5 (z1 ?_);exact zEe X5
theorem split_c(s:List UInt8)(hs:okS s):ab Tryz.prog [] 80 [S s] (ret (.tup [S (splitP s).1.1,S (splitP s).1.2,I (splitP s).2])):=by
 by_cases h:br s=true
 case neg=>
  rw[rm h];refine zJ Tryz.func80 Tryz.ntmps80 Tryz.results80 ?_;simp only[go_sem]
  (refine zW qw (z1 ((good_c s hs).re (congrArg B (Te h)))) X5 (z1 ?_)<;>(repeat with_reducible intro hc))
  exact zEe X5
 rcases la h with rfl|⟨ps,p,hn,e,hl,hj⟩
 ·rw[kX]
  refine zJ Tryz.func80 Tryz.ntmps80 Tryz.results80 ?_;simp only[go_sem]
  (refine zW qw (z1 ((good_c [47] hs).re (congrArg B h))) X5 (z1 ?_)<;>(repeat with_reducible intro hc))
  exact zEe X5
 have hsp:=ly hn hl;rw[←e] at hsp hl;rw[hsp];rw[hj] at e;have hp:=mv (hn p (by simp));have hlen:=yY (bU ps) p 47;rw[←e] at hlen;have hp0:p≠[]:=fun h1=>by have:=hn p (by simp);rw[h1] at this;revert this;decide
 have hpl:=TJ.2 hp0;have h47:¬ s=[47]:=fun h0=>by rw[h0,Sj] at hlen;omega
 have hlast:ab Tryz.prog [] 136 [S (bU ps++47::p),.d (.int .u8 47)] (ret (I (bU ps).length)):=AY (bU ps) p 47 hp (by rw[←e];exact hs);rw[←e] at hlast;refine zJ Tryz.func80 Tryz.ntmps80 Tryz.results80 ?_;simp only[go_sem]
 (refine zW qw (z2 ((good_c s hs).re (congrArg B h)) hlast) @h47 (z2 ?_ ?_)<;>(repeat with_reducible intro hc))
 ·have e0:bU ps=[]:=R2 hc
  have eps:ps=[]:=VR fun h=>uI h e0
  have e1:List.take (s.length-1) (List.drop 1 s)=p:=by rw[Rz (by simp),e,e0];rfl
  have e2:bX ps=[47]:=by rw[eps];rfl
  rw[e2];exact zEe @e1
 ·have eps:ps≠[]:=fun h=>hc (by rw[h];rfl)
  have e1:List.take (s.length-((bU ps).length+1)) (List.drop ((bU ps).length+1) s)=p:=by rw[Rz (by simp),e,←Sv,List.drop_left];rfl
  have e2:bX ps=bU ps:=by unfold bX;rw[Rw eps]
  have e3:List.take (bU ps).length s=bU ps:=by rw[e,List.take_left]
  have e4:(((bU ps).length:Int)+1).toNat=(bU ps).length+1:=by omega
  rw[e2];exact zEe (zx @e4 (zx @e1 (zx @e3 @R3)))
theorem Dy(ps:List (List UInt8))(p:List UInt8):bU (ps++[p])=bU ps++47::p:=by rw[qC];simp[bU]
theorem bC(s:List UInt8)(hs:s.length≤1048576):ab Tryz.prog [] 170 [S s] (ret (.tup [S (splitP s).1.1,S (splitP s).1.2,I (splitP s).2])):=by
 by_cases h:br s=true
 case neg=>
  rw[rm h];refine zJ Tryz.func170 Tryz.ntmps170 Tryz.results170 ?_;simp only[go_sem]
  (refine zW qw (z1 ((bu s hs).re (congrArg B (Te h)))) X5 (z1 ?_)<;>(repeat with_reducible intro hc))
  exact zEe X5
 rcases la h with rfl|⟨ps,p,hn,e,hl,hj⟩
 ·rw[kX]
  refine zJ Tryz.func170 Tryz.ntmps170 Tryz.results170 ?_;simp only[go_sem]
  (refine zW qw (z1 ((bu [47] hs).re (congrArg B h))) X5 (z1 ?_)<;>(repeat with_reducible intro hc))
  exact zEe X5
 have hsp:=ly hn hl;have hpieces:=vX hn (by simp);rw[←e] at hsp hl hpieces;rw[hsp];rw[hj] at e
 have hn47:¬ s=[47]:=fun h0=>by
  rw[h0] at hpieces;have h2:=hn p (by simp);have h3:ps++[p]=[[]]:=by have:splitB [47]=[[],[]]:=rfl;rw[this,R8] at hpieces;exact hpieces.2.symm
  have h4:p∈ps++[p]:=by simp
  rw[h3,SM] at h4;rw[h4] at h2;revert h2;decide
 have hst:=(Fa s hs).re (by rw[hpieces]);have hjl:(bU ps).length≤200:=by have:=yY (bU ps) p 47;rw[←e] at this;omega
 have hpl:ps.length+1≤201:=by have:=qD s;rw[hpieces] at this;simp at this;omega
 have en:((ps.length+1+1:Nat):Int)-1=((ps.length+1:Nat):Int):=by omega
 have em:min ps.length (ps.length+1)=ps.length:=by omega
 have etk:List.take ps.length (List.map srow (ps++[p]))=List.map srow ps:=by simp
 have eg:([DV.str []]::List.map srow (ps++[p])).getD (ps.length+1) []=srow p:=by rw[Ru,Th,Sb,RG (by simp)];simp
 refine zJ Tryz.func170 Tryz.ntmps170 Tryz.results170 ?_;simp only[go_sem]
 (refine zW qw (z2 ((bu s hs).re (congrArg B h)) hst) (zx @hn47 (zx @en (zx @em (zx @etk (zx @eg @Tq))))) (z1 ?_)<;>(repeat with_reducible intro hc))
 refine WW (ι:=Nat) (fun k=>k≤ps.length) (fun k=>ps.length-k) [5,6,22,23] (fun k=>[(7,S (bU (ps.take k))),(24,I k)]) 0 ?_ (by simp(disch:=omega) only[go_sem,aa,bU]) ?_
 ·omega
 intro k hk;have hkl:=tD ps k
 have hgk:(ps.getD k []).length≤40:=by
  by_cases hk2:k<ps.length
  ·exact oU (hn _ (UQ _ (bs ps [] hk2)))
  ·rw[Ru,RX (by omega)];exact RI _
 have egd:(ps++[p]).getD ps.length default=p:=by rw[Ru,RG (RE _),Tl];rfl
 simp only[go_sem]
 (refine zW qw zn (zx @fa (zx @srow.eq_1 (zx @en @eg))) (z3 ?_ ?_ ?_)<;>(repeat with_reducible intro hc))
 ·refine⟨k+1,by omega,by omega,?_⟩
  have ets:ps.take (k+1)=ps.take k++[ps.getD k []]:=aN ps k (by assumption);rw[ets,Dy];exact zSm X5
 ·have ek:k=ps.length:=by omega
  rw[ek,RU] at hc;have eps:ps=[]:=VR fun h=>uI h hc
  have e2:bX ps=[47]:=by rw[eps];rfl
  rw[e2];exact zEe @egd
 ·have ek:k=ps.length:=by omega
  subst ek;rw[RU] at *
  have eps:ps≠[]:=fun h=>hc (by rw[h];rfl)
  have e2:bX ps=bU ps:=by unfold bX;rw[Rw eps]
  rw[e2];exact zEe @egd
/-! Depth. -/
def ar(t:XI):List (List UInt8):=t.nodes.map XG.path
def nd(t:XI)(k:Nat):XG:=t.nodes.getD k default
def eH(l:List Int)(k:Nat):Prop:=1≤l.getD k default∧l.getD k default≤2147483647∧(0<k→l.getD (k-1) default<l.getD k default)
instance (l:List Int) (k:Nat):Decidable (eH l k):=by unfold eH;infer_instance
def kJ(t:XI)(k:Nat):Prop:=br (nd t k).path=true∧(nd t k).data.length≤256∧(0<k→(nd t (k-1)).path<(nd t k).path)
instance (t:XI) (k:Nat):Decidable (kJ t k):=by unfold kJ;infer_instance
def pA(t:XI)(s:XU):Prop:=0≤s.version∧s.version≤2147483647∧0≤s.cversion∧s.cversion≤2147483647∧0≤s.czxid∧s.czxid≤s.mzxid∧s.czxid≤s.pzxid∧s.mzxid≤t.zxid∧s.pzxid≤t.zxid
instance (t:XI) (s:XU):Decidable (pA t s):=by unfold pA;infer_instance
def sF(t:XI)(s:XU):Prop:=s.owner≠0→s.owner∈t.sessions∧s.kids=0
instance (t:XI) (s:XU):Decidable (sF t s):=by unfold sF;infer_instance
def mH(t:XI)(k:Nat):List UInt8:=(splitP (nd t k).path).1.1
def kidsN(t:XI)(p:List UInt8)(n:Nat):Nat:=((List.range n).filter fun j=>decide (mH t j=p)).length
def upB(t:XI)(k:Nat):Prop:=k=0∨mH t k∈ar t
instance (t:XI) (k:Nat):Decidable (upB t k):=by unfold upB;infer_instance
def jd(t:XI):Prop:=1≤t.nodes.length∧t.nodes.length≤400∧(nd t 0).path=[47]∧(nd t 0).stat.owner=0∧bd t.zxid
instance (t:XI):Decidable (jd t):=by unfold jd;infer_instance
def aS(t:XI):Bool:=decide (jd t∧(∀ k,k<t.sessions.length→eH t.sessions k)∧(∀ k,k<t.nodes.length→kJ t k)∧
 ∀ k,k<t.nodes.length→pA t (nd t k).stat∧sF t (nd t k).stat∧upB t k∧(nd t k).stat.kids=kidsN t (nd t k).path t.nodes.length)
theorem bi{t:XI}:aS t=true↔jd t∧(∀ k,k<t.sessions.length→eH t.sessions k)∧(∀ k,k<t.nodes.length→kJ t k)∧
  ∀ k,k<t.nodes.length→pA t (nd t k).stat∧sF t (nd t k).stat∧upB t k∧(nd t k).stat.kids=kidsN t (nd t k).path t.nodes.length:=by unfold aS;rw[RB]
theorem aR(t:XI)(k:Nat):(ar t).getD k []=(nd t k).path:=cV XG.path t.nodes k default
theorem aK(t:XI):(ar t).length=t.nodes.length:=by unfold ar;simp
theorem oo{l:List Int}(h:∀ k,k<l.length→eH l k):fy l:=fun k hk=>by have:=(h (k+1) (by omega)).2.2 (by omega);simpa using this
theorem Af{t:XI}(h:∀ k,k<t.nodes.length→kJ t k):aE (ar t):=fun k hk=>by
 rw[aK] at hk
 have:=(h (k+1) hk).2.2 (by omega);rw[aR,aR];simpa using this
theorem aF{t:XI}(h:aS t=true):aE (ar t):=Af (bi.1 h).2.2.1
theorem fV{t:XI}(h:aS t=true):fy t.sessions:=oo (bi.1 h).2.1
theorem cr{t:XI}(h:aS t=true):jd t:=(bi.1 h).1
theorem findU_c(t:XI)(key:List UInt8)(h:t.nodes.length*88≤140737488351232):ab Tryz.prog [] 74 [t.av,S key] (ret (.tup [I (bsN (ar t) key),B (jC (ar t) key)])):=by unfold ar;refine zJ Tryz.func74 Tryz.ntmps74 Tryz.results74 ?_;simp only[go_sem];refine zW qw (z1 (Fw t.nodes key h)) X5 (z1 ?_);exact zEe X5
theorem zp(t:XI)(key:List UInt8)(h:t.nodes.length*88≤140737488351232)(hr:aE (ar t)):ab Tryz.prog [] 74 [t.av,S key] (ret (.tup [I (place (ar t) key),B (decide (key∈ar t))])):=by have:=findU_c t key h;rwa[xy hr,oW hr] at this
theorem open_c(t:XI)(s:Int)(h:t.sessions.length*8≤140737488351232)(hr:fy t.sessions):ab Tryz.prog [] 79 [t.av,I s] (ret (B (decide (s∈t.sessions)))):=by refine zJ Tryz.func79 Tryz.ntmps79 Tryz.results79 ?_;simp only[go_sem];refine zW qw (z1 (yc t.sessions s h hr)) X5 (z1 ?_);exact zEe X5
def aw(t:XI)(key:List UInt8):XG×Int:=if key∈ar t then(nd t (place (ar t) key),0) else(default,7)
theorem kV(t:XI)(key:List UInt8)(h:t.nodes.length*88≤140737488351232)(hr:aE (ar t)):ab Tryz.prog [] 43 [t.av,S key] (ret (.tup [(aw t key).1.av,I (aw t key).2])):=by
 by_cases hm:key∈ar t
 ·have hp:=(ag hr hm).1
  rw[aK] at hp;unfold aw;rw[Rx hm];refine zJ Tryz.func43 Tryz.ntmps43 Tryz.results43 ?_;simp only[go_sem]
  (refine zW qw (z1 ((zp t key h hr).re (by rw[decide_eq_true hm]))) X5 (z1 ?_)<;>(repeat with_reducible intro hc))
  exact zEe @nd.eq_1
 ·unfold aw
  rw[Rw hm];refine zJ Tryz.func43 Tryz.ntmps43 Tryz.results43 ?_;simp only[go_sem]
  (refine zW qw (z1 ((zp t key h hr).re (by rw[RM hm]))) X5 (z1 ?_)<;>(repeat with_reducible intro hc))
  exact zEe dfl
def t00:XI:=⟨0,[⟨[47],[],⟨0,0,0,0,0,0,0⟩⟩],[]⟩
theorem Oi:ab Tryz.prog [] 31 [] (ret t00.av):=by refine zJ Tryz.func31 Tryz.ntmps31 Tryz.results31 ?_;simp only[go_sem];refine zW qw zn X5 (z1 ?_);exact zEe @t00.eq_1
theorem wn:ab Tryz.prog [] 90 [] (ret t00.av):=by refine zJ Tryz.func90 Tryz.ntmps90 Tryz.results90 ?_;simp only[go_sem];refine zW qw zn X5 (z1 ?_);exact zEe @t00.eq_1
theorem tZ{t:XI}(hw:t.wf)(k:Nat):okS (t.nodes.getD k default).path∧okS (t.nodes.getD k default).data:=by
 by_cases e:k<t.nodes.length
 ·have:=hw.2.1.2 _ (aZ t.nodes k e)
  exact⟨this.1,this.2.1⟩
 ·rw[Ru,RX (by omega)];exact⟨show okS [] by unfold okS;decide,show okS [] by unfold okS;decide⟩
theorem Id{s:List UInt8}(h:(splitP s).2=0):(splitP s).1.1≠[]:=by
 unfold splitP at h ⊢;split at h
 ·rename_i hg
  split at h
  ·cases h
  ·rename_i h0
   rw[Rx hg,Rw h0];show bX _≠[];unfold bX;split
   ·decide
   ·rename_i h1;exact uI h1
 ·cases h
theorem FI{s:List UInt8}(h:¬ (splitP s).2=0):(splitP s).1.1=[]:=by
 unfold splitP at h ⊢;split at h
 ·rename_i hg
  split at h
  ·rename_i h0;rw[Rx hg,Rx h0]
  ·exact absurd rfl h
 ·rename_i hg;rw[Rw hg]
theorem B9{s:List UInt8}(h:br s=true):s≠[]:=by rintro rfl;revert h;decide
theorem Dh(t:XI)(p:List UInt8):kidsN t p 0=0:=rfl
theorem jt(t:XI)(p:List UInt8)(k:Nat):kidsN t p (k+1)=kidsN t p k+if mH t k=p then 1 else 0:=by
 unfold kidsN;rw[Vt,Sn,Ry]
 by_cases e:mH t k=p
 ·rw[Rx e,SQ (by simpa using e)];rfl
 ·rw[Rw e,Sr (by simpa using e)];rfl
theorem Az(t:XI)(p:List UInt8)(k:Nat):kidsN t p k≤k:=by unfold kidsN;exact RW (SK _ _) (by rw[U9];exact RE _)
theorem iK{t:XI}(h:aS t=true→False):aS t=false:=by
 cases e:aS t
 ·rfl
 ·exact(h e).elim
theorem sP{t:XI}(h:¬ jd t):false=aS t:=(iK fun h2=>h (cr h2)).symm
theorem EC{t:XI}{k:Nat}(hk:k<t.sessions.length)(h:¬ eH t.sessions k):false=aS t:=(iK fun h2=>h ((bi.1 h2).2.1 k hk)).symm
theorem HN{t:XI}{k:Nat}(hk:k<t.nodes.length)(h:¬ kJ t k):false=aS t:=(iK fun h2=>h ((bi.1 h2).2.2.1 k hk)).symm
theorem o7{t:XI}{k:Nat}(hk:k<t.nodes.length)(h:¬ (pA t (nd t k).stat∧sF t (nd t k).stat∧upB t k∧(nd t k).stat.kids=kidsN t (nd t k).path t.nodes.length)):false=aS t:=(iK fun h2=>h ((bi.1 h2).2.2.2 k hk)).symm
def JV(t:XI)(i:Nat):Prop:=((((((((((br (nd t i).path=true∧((nd t i).data.length:Int)≤256)∧((i:Int)≤0∨(nd t (i-1)).path<(nd t i).path))∧0≤(nd t i).stat.version)∧(nd t i).stat.version≤2147483647)∧0≤(nd t i).stat.cversion)∧(nd t i).stat.cversion≤2147483647)∧
 0≤(nd t i).stat.czxid)∧(nd t i).stat.czxid≤(nd t i).stat.mzxid)∧(nd t i).stat.czxid≤(nd t i).stat.pzxid)∧(nd t i).stat.mzxid≤t.zxid)∧(nd t i).stat.pzxid≤t.zxid
theorem AJ{t:XI}{i:Nat}(h:JV t i):kJ t i∧pA t (nd t i).stat:=by obtain⟨⟨⟨⟨⟨⟨⟨⟨⟨⟨⟨h1,h2⟩,h3⟩,h4⟩,h5⟩,h6⟩,h7⟩,h8⟩,h9⟩,h10⟩,h11⟩,h12⟩:=h;exact⟨⟨h1,by omega,fun h0=>h3.resolve_left (by omega)⟩,h4,h5,h6,h7,h8,h9,h10,h11,h12⟩
theorem M9{s:List UInt8}(hg:br s=true)(h:¬ (splitP s).2=0):s=[47]:=by
 unfold splitP at h;rw[Rx hg] at h;split at h
 ·rename_i h0
  have:=(ku hg).1;rw[h0] at this;exact this
 ·exact absurd rfl h
theorem tT{t:XI}:∀{i:Nat},(∀ j,j≤i→kJ t j)→0<i→(nd t 0).path<(nd t i).path
 |0,_,h=>by omega
 | i+1,h,_=>by
   have:=(h (i+1) (RE _)).2.2 (by omega);rw[Tq] at this
   by_cases e:i=0
   ·subst e;exact this
   ·exact S9 (tT (fun j hj=>h j (by omega)) (by omega)) this
theorem MM{t:XI}{i:Nat}(hh:jd t)(hA:∀ j,j≤i→kJ t j)(he:¬ (splitP (nd t i).path).2=0):upB t i:=by
 by_cases e:i=0
 ·exact .inl e
 ·have h1:=tT hA (by omega)
  rw[M9 (hA i (RE _)).1 he,hh.2.2.1] at h1;exact absurd h1 (Sk _)
theorem Oc{t:XI}{i:Nat}(hi:i<t.nodes.length)(h0:(splitP (nd t i).path).2=0)(h:jC (ar t) (splitP (nd t i).path).1.1=false):false=aS t:=by
 refine(iK fun h2=>?_).symm;rw[oW (aF h2),RT] at h;rcases((bi.1 h2).2.2.2 i hi).2.2.1 with e|e
 ·subst e
  rw[(cr h2).2.2.1] at h0;exact absurd h0 (by decide)
 ·exact h e
theorem Py{t:XI}{i:Nat}(hi:i<t.nodes.length)(h0:¬ (nd t i).stat.owner=0)(h:¬ (nd t i).stat.owner∈t.sessions∨¬ (nd t i).stat.kids=0):false=aS t:=
 o7 hi fun⟨_,ho,_,_⟩=>by
  obtain⟨a,b⟩:=ho h0;rcases h with h|h
  ·exact h a
  ·exact h b
structure TLoop (t:XI) (i:Nat) (m:List (List UInt8×Int)):Prop where
 le:i≤t.nodes.length
 ok:∀ j,j<i→kJ t j∧pA t (nd t j).stat∧sF t (nd t j).stat∧upB t j
 cnt:∀ p,p≠[]→kQ m p=(kidsN t p i:Nat)
theorem EH{t:XI}{i:Nat}{m:List (List UInt8×Int)}(h:TLoop t i m)(hi:i<t.nodes.length)(hc:JV t i)(ho:sF t (nd t i).stat)(h0:(splitP (nd t i).path).2=0)(hf:jC (ar t) (splitP (nd t i).path).1.1=true) :
  TLoop t (i+1) (mset m (splitP (nd t i).path).1.1 (kQ m (splitP (nd t i).path).1.1+1)):=by
 refine⟨by omega,fun j hj=>?_,fun p hp=>?_⟩
 ·by_cases e:j=i
  ·subst e;obtain⟨a,b⟩:=AJ hc;exact⟨a,b,ho,.inr (Cm hf)⟩
  ·exact h.ok j (by omega)
 ·have:=Fo m (splitP (nd t i).path).1.1 p
  unfold IG at this;rw[this,h.cnt p hp,jt]
  by_cases e:p=(splitP (nd t i).path).1.1
  ·rw[Rx e,Rx (show mH t i=p from e.symm)];omega
  ·rw[Rw e,Rw (show ¬ mH t i=p from fun e2=>e e2.symm)];omega
theorem Fe{t:XI}{i:Nat}{m:List (List UInt8×Int)}(h:TLoop t i m)(hh:jd t)(hi:i<t.nodes.length)(hc:JV t i)(ho:sF t (nd t i).stat)(h0:¬ (splitP (nd t i).path).2=0):TLoop t (i+1) m:=by
 obtain⟨a,b⟩:=AJ hc
 have hA:∀ j,j≤i→kJ t j:=fun j hj=>by
  by_cases e:j=i
  ·subst e;exact a
  ·exact(h.ok j (by omega)).1
 refine⟨by omega,fun j hj=>?_,fun p hp=>?_⟩
 ·by_cases e:j=i
  ·subst e;exact⟨a,b,ho,MM hh hA h0⟩
  ·exact h.ok j (by omega)
 ·rw[h.cnt p hp,jt,Rw (show ¬ mH t i=p from fun e2=>hp (e2.symm.trans (FI h0)))];rfl
theorem Ez{t:XI}{i:Nat}{m:List (List UInt8×Int)}(h:TLoop t i m)(h4:t.nodes.length≤400)(h0:(splitP (nd t i).path).2=0):IntKind.i64.wrap (kQ m (splitP (nd t i).path).1.1+1)=kQ m (splitP (nd t i).path).1.1+1:=by have a:=h.cnt _ (Id h0);have b:=Az t (splitP (nd t i).path).1.1 i;have c:=h.le;simp[IntKind.wrap,IntKind.bits,IntKind.signed];omega
theorem EY{t:XI}{i:Nat}(h:(nd t i).stat.owner∈t.sessions∧(nd t i).stat.kids=0):sF t (nd t i).stat:=fun _=>h
theorem Be{t:XI}{i:Nat}(h:(nd t i).stat.owner=0):sF t (nd t i).stat:=fun h2=>absurd h h2
theorem GL{t:XI}{m:List (List UInt8×Int)}(hh:jd t)(hs:∀ j,j<t.sessions.length→eH t.sessions j)(h:TLoop t t.nodes.length m)(hk:∀ j,j<t.nodes.length→(nd t j).stat.kids=kQ m (nd t j).path):aS t=true:=by refine bi.2 ⟨hh,hs,fun k hk=>(h.ok k hk).1,fun k hk2=>?_⟩;obtain⟨a,b,c,d⟩:=h.ok k hk2;refine⟨b,c,d,?_⟩;rw[hk k hk2,h.cnt _ (B9 a.1)]
theorem MA{t:XI}{m:List (List UInt8×Int)}{k:Nat}(h:TLoop t t.nodes.length m)(hk:k<t.nodes.length)(hc:¬ (nd t k).stat.kids=kQ m (nd t k).path):false=aS t:=
 o7 hk fun⟨_,_,_,h2⟩=>hc (by rw[h2,h.cnt _ (B9 (h.ok k hk).1.1)])
theorem lk(t:XI)(hw:t.wf):ab Tryz.prog [] 34 [t.av] (ret (B (aS t))):=by
 have hok:=tZ hw;obtain⟨hz,⟨hn,hnw⟩,⟨hs,hsw⟩⟩:=hw;refine zJ Tryz.func34 Tryz.ntmps34 Tryz.results34 ?_;simp only[go_sem]
 (repeat' first
|(with_reducible refine AR.f ?_)
|refine bI (by decide) ?_
|(with_reducible refine AWP.cond rfl ?_ ?_<;>intro hc<;>(try simp only[hcs,RN,RY,RZ] at hc))
|((first|((first|(with_reducible first|refine zR ?_|refine zQ ?_|refine zD ?_|refine zE ?_|refine zG ?_));intro K hK)|((first|refine zA (zgood_c t.zxid) ?_ ?_ ?_ ?_ ?_);(focus exact rfl);(focus exact rfl);iterate 2 (focus((try simp(disch:=omega) only[go_sem,aa])<;>(try omega)<;>fail)))|((first|refine zX (zgood_c t.zxid) rfl ?_ ?_);(focus((try simp(disch:=omega) only[go_sem,aa])<;>(try omega)<;>fail)))|((first|(with_reducible refine aunder_i ?_ ?_<;>intro hg)|with_reducible intro hg)<;>(first|(exfalso;simp at hg;done)|(have hg':=hg;(try simp only[hcs,RN,RY,RZ] at hg');(try simp only[hg])))))<;>(try simp(disch:=omega) only[go_sem,aa])<;>(repeat' with_reducible refine Sg ?_ ?_)<;>(try(with_reducible refine hK _ ?_;clear hK K)))
|omega)
 ·(refine zE2 X5 ?_;(try simp(disch:=omega) only[go_sem,aa,I,B,S,zj]))
  refine sP fun⟨a1,a2,a3,a4,a5⟩=>?_
  rcases hc with(((h|h)|h)|h)|h
  ·omega
  ·omega
  ·exact h a3
  ·exact h a4
  ·exact h a5
 rotate_left
 ·simp_all
 ·(refine zE2 X5 ?_;(try simp(disch:=omega) only[go_sem,aa,I,B,S,zj]))
  refine sP fun⟨a1,a2,a3,a4,a5⟩=>?_
  rcases hg' with((h|h)|h)|h
  ·omega
  ·omega
  ·exact h a3
  ·exact h a4
 have hhead:jd t:=⟨by omega,by omega,hc.1.1.2,hc.1.2,hc.2⟩;have h400:t.nodes.length≤400:=by omega
 clear hc hg;refine WW (ι:=Nat) (fun k=>k≤t.sessions.length∧∀ j,j<k→eH t.sessions j) (fun k=>t.sessions.length-k) [1,50,51] (fun k=>[(52,I k)]) 0 ?_ (by simp(disch:=omega) only[go_sem,aa,SH]) ?_
 ·exact⟨by omega,fun j hj=>by omega⟩
 intro k ⟨hk,hk2⟩;simp only[go_sem]
 (refine zW qw zn @gb (z3 ?_ ?_ ?_)<;>(repeat with_reducible intro hc))
 ·(refine zE2 X5 ?_;(try simp(disch:=omega) only[go_sem,aa,I,B,S,zj]))
  refine EC (k:=k) (by omega) fun⟨a1,a2,a3⟩=>?_
  rcases hc with(h|h)|h
  ·omega
  ·omega
  ·exact absurd (a3 (by omega)) (by omega)
 ·refine⟨k+1,⟨by omega,fun j hj=>?_⟩,by omega,?_⟩
  ·by_cases e:j=k
   ·subst e;exact⟨hc.1.1,hc.1.2,fun h0=>hc.2.resolve_left (by omega)⟩
   ·exact hk2 j (by omega)
  exact zSm X5
 have hss:∀ j,j<t.sessions.length→eH t.sessions j:=fun j hj=>hk2 j (by omega)
 have hri:=oo hss;clear hk2 hk hc;refine WQ (ι:=Nat×List (List UInt8×Int)) (fun v=>TLoop t v.1 v.2) (fun v=>t.nodes.length-v.1) [1,5,80,81] (fun v=>[(82,I v.1)]) (fun v=>[.cells [.d (.int .i64 t.zxid),.d (.sl 9 (t.nodes.map XG.row)),.d (.sl 1 (t.sessions.map a8))],.map v.2]) (0,[]) ?_ ?_ ?_
 ·exact⟨by simp,fun j hj=>by simp at hj,fun p hp=>rfl⟩
 ·simp only[go_sem];exact zSm X5
 intro⟨i,m⟩ hT;simp only at hT;have hokk:=(hok i).1;have hokd:=(hok i).2;have hle:=hT.le;simp only[go_sem]
 (repeat' first
|(with_reducible refine AR.f ?_)
|refine bI (by decide) ?_
|(with_reducible refine AWP.cond rfl ?_ ?_<;>intro hc<;>(try simp only[hcs,RN,RY,RZ] at hc))
|((first|((first|(with_reducible first|refine zR ?_|refine zQ ?_|refine zD ?_|refine zE ?_|refine zG ?_));intro K hK)|((first|refine acallH_sc (good_c _ hokk) rfl rfl ?_ ?_ ?_|refine acallQ_sc (good_c _ hokk) rfl rfl ?_ ?_ ?_|refine acallH_sc (open_c t _ hs hri) rfl rfl ?_ ?_ ?_|refine acallQ_sc (open_c t _ hs hri) rfl rfl ?_ ?_ ?_|refine acallH_sc (split_c _ hokk) rfl rfl ?_ ?_ ?_|refine acallQ_sc (split_c _ hokk) rfl rfl ?_ ?_ ?_|refine acallH_sc (findU_c t _ hn) rfl rfl ?_ ?_ ?_|refine acallQ_sc (findU_c t _ hn) rfl rfl ?_ ?_ ?_);iterate 2 (focus((try simp(disch:=omega) only[go_sem,aa,gb,ey,UU])<;>(try omega)<;>fail)))|((first|refine zX (good_c _ hokk) rfl ?_ ?_|refine zX (open_c t _ hs hri) rfl ?_ ?_|refine zX (split_c _ hokk) rfl ?_ ?_|refine zX (findU_c t _ hn) rfl ?_ ?_);(focus((try simp(disch:=omega) only[go_sem,aa,gb,ey,UU])<;>(try omega)<;>fail)))|((first|(with_reducible refine aunder_i ?_ ?_<;>intro hg)|with_reducible intro hg)<;>(first|(exfalso;simp at hg;done)|(have hg':=hg;(try simp only[hcs,RN,RY,RZ] at hg');(try simp only[hg])))))<;>(try simp(disch:=omega) only[go_sem,aa,gb,ey,UU])<;>(repeat' with_reducible refine Sg ?_ ?_)<;>(try(with_reducible refine hK _ ?_;clear hK K)))
|omega)
 ·(refine zE2 X5 ?_;(try simp(disch:=omega) only[go_sem,aa,I,B,S,zj]))
  refine(iK fun h2=>?_).symm;obtain⟨a1,a2,a3⟩:=(bi.1 h2).2.2.1 i (by assumption);obtain⟨b1,b2,b3,b4,b5,b6,b7,b8,b9⟩:=((bi.1 h2).2.2.2 i (by assumption)).1;unfold nd at a1 a2 a3 b1 b2 b3 b4 b5 b6 b7 b8 b9;rcases hc with((((((((((h|h)|h)|h)|h)|h)|h)|h)|h)|h)|h)|h
  ·rw[a1] at h;cases h
  ·omega
  ·exact h.2 (a3 (by omega))
  all_goals omega
 ·(refine zE2 X5 ?_;(try simp(disch:=omega) only[go_sem,aa,I,B,S,zj]))
  exact Py (i:=i) (by assumption) hg' hc
 ·(refine zE2 X5 ?_;(try simp(disch:=omega) only[go_sem,aa,I,B,S,zj]))
  exact Oc (i:=i) (by assumption) (by assumption) hc
 ·refine⟨(i+1,_),EH hT (by assumption) (by assumption) (EY (by assumption)) (by assumption) hc,by simp only;omega,?_⟩
  have hw1:=Ez hT h400 (by assumption);unfold nd at hw1 ⊢;exact zFr [0,1] @hw1
 ·refine⟨(i+1,m),Fe hT hhead (by assumption) (by assumption) (EY (by assumption)) hc,by simp only;omega,?_⟩
  exact zFr [0,1] X5
 ·(refine zE2 X5 ?_;(try simp(disch:=omega) only[go_sem,aa,I,B,S,zj]))
  exact Oc (i:=i) (by assumption) (by assumption) hc
 ·refine⟨(i+1,_),EH hT (by assumption) (by assumption) (Be hg') (by assumption) hc,by simp only;omega,?_⟩
  have hw1:=Ez hT h400 (by assumption);unfold nd at hw1 ⊢;exact zFr [0,1] @hw1
 ·refine⟨(i+1,m),Fe hT hhead (by assumption) (by assumption) (Be hg') hc,by simp only;omega,?_⟩
  exact zFr [0,1] X5
 obtain rfl:i=t.nodes.length:=by omega
 clear hc;refine WQ (ι:=Nat) (fun k=>k≤t.nodes.length∧∀ j,j<k→(nd t j).stat.kids=kQ m (nd t j).path) (fun k=>t.nodes.length-k) [5,206,207] (fun k=>[(208,I k)]) (fun k=>[.cells [.d (.int .i64 t.zxid),.d (.sl 9 (t.nodes.map XG.row)),.d (.sl 1 (t.sessions.map a8))],.map m]) 0 ?_ ?_ ?_
 ·exact⟨by omega,fun j hj=>by omega⟩
 ·simp only[go_sem];exact zSm X5
 intro j ⟨hj,hj2⟩;simp only[go_sem]
 (refine zW qw zn X5 (z3 ?_ ?_ ?_)<;>(repeat with_reducible intro hc))
 ·(refine zE2 X5 ?_;(try simp(disch:=omega) only[go_sem,aa,I,B,S,zj]))
  exact MA (k:=j) hT (by assumption) hc
 ·refine⟨j+1,⟨by omega,fun q hq=>?_⟩,by omega,?_⟩
  ·by_cases e:q=j
   ·subst e;exact hc
   ·exact hj2 q (by omega)
  exact zFr [0,1] X5
 ·(refine zE2 X5 ?_;(try simp(disch:=omega) only[go_sem,aa,I,B,S,zj]))
  exact(GL hhead hss hT (fun q hq=>hj2 q (by omega))).symm
theorem QV(l:List Int)(x:Int)(h:l.length*8≤140737488351232):ab Tryz.prog [] 224 [.d (.sl 1 (l.map a8)),I x] (ret (B (decide (x∈l)))):=by
 refine zJ Tryz.func224 Tryz.ntmps224 Tryz.results224 ?_;simp only[go_sem];refine zW qw zn X5 (z1 ?_);refine WW (ι:=Nat) (fun k=>k≤l.length∧∀ j,j<k→l.getD j default≠x) (fun k=>l.length-k) [1,7,8] (fun k=>[(9,I k)]) 0 ?_ (by simp(disch:=omega) only[go_sem,aa,SH]) ?_
 ·exact⟨by omega,fun j hj=>by omega⟩
 intro k ⟨hk,hk2⟩;simp only[go_sem]
 (refine zW qw zn X5 (z3 ?_ ?_ ?_)<;>(repeat with_reducible intro hc))
 ·(refine zE2 X5 ?_;(try simp(disch:=omega) only[go_sem,aa,I,B,S,zj]))
  symm;rw[RB,aM l default]
  exact⟨k,by omega,by simp only[*]⟩
 ·refine⟨k+1,⟨by omega,fun j hj=>?_⟩,by omega,?_⟩
  ·by_cases e:j=k
   ·subst e;exact fun e2=>hc (by simp only[*])
   ·exact hk2 j (by omega)
  exact zSm X5
 ·(refine zE2 X5 ?_;(try simp(disch:=omega) only[go_sem,aa,I,B,S,zj]))
  symm;rw[RT,aM l default]
  rintro⟨j,hj,e⟩
  exact hk2 j (by omega) e
theorem isOpen_c(t:XI)(s:Int)(h:t.sessions.length*8≤140737488351232):ab Tryz.prog [] 169 [t.av,I s] (ret (B (decide (s∈t.sessions)))):=by refine zJ Tryz.func169 Tryz.ntmps169 Tryz.results169 ?_;simp only[go_sem];refine zW qw (z1 (QV t.sessions s h)) X5 (z1 ?_);exact zEe X5
def tu(t:XI)(p:List UInt8):Int:=if p∈ar t then(place (ar t) p:Nat) else -1
theorem nh{t:XI}{p:List UInt8}(h:p∈ar t):tu t p=(place (ar t) p:Nat):=by unfold tu;rw[Rx h]
theorem nodeI_no{t:XI}{p:List UInt8}(h:¬ p∈ar t):tu t p=-1:=by unfold tu;rw[Rw h]
theorem pT(t:XI)(p:List UInt8)(h:t.nodes.length*88≤140737488351232)(hr:aE (ar t)):ab Tryz.prog [] 163 [t.av,S p] (ret (I (tu t p))):=by
 refine zJ Tryz.func163 Tryz.ntmps163 Tryz.results163 ?_;simp only[go_sem];refine zW qw zn X5 (z1 ?_);refine WW (ι:=Nat) (fun k=>k≤t.nodes.length∧∀ j,j<k→(t.nodes.getD j default).path≠p) (fun k=>t.nodes.length-k) [1,8,9] (fun k=>[(10,I k)]) 0 ?_ (by simp(disch:=omega) only[go_sem,aa,SH]) ?_
 ·exact⟨by omega,fun j hj=>by omega⟩
 intro k ⟨hk,hk2⟩;simp only[go_sem]
 (refine zW qw zn X5 (z3 ?_ ?_ ?_)<;>(repeat with_reducible intro hc))
 ·(refine zE2 X5 ?_;(try simp(disch:=omega) only[go_sem,aa,I,B,S,zj]))
  have hl:k<(ar t).length:=by rw[aK];omega
  have e:=pW hr hl;rw[aR] at e;unfold nd at e;rw[hc] at e;have hm:p∈ar t:=(aM _ [] p).2 ⟨k,hl,by rw[aR];exact hc⟩;rw[nh hm,e]
 ·refine⟨k+1,⟨by omega,fun j hj=>?_⟩,by omega,?_⟩
  ·by_cases e:j=k
   ·subst e;exact hc
   ·exact hk2 j (by omega)
  exact zFr [0] X5
 ·(refine zE2 X5 ?_;(try simp(disch:=omega) only[go_sem,aa,I,B,S,zj]))
  rw[nodeI_no];rw[aM _ []]
  rintro⟨j,hj,e⟩
  rw[aR] at e;rw[aK] at hj;exact hk2 j (by omega) e
theorem iq(t:XI)(p:List UInt8)(h:t.nodes.length*88≤140737488351232)(hr:aE (ar t)):ab Tryz.prog [] 99 [t.av,S p] (ret (.tup [(aw t p).1.av,I (aw t p).2])):=by
 by_cases hm:p∈ar t
 ·have hp:=(ag hr hm).1
  rw[aK] at hp;unfold aw;rw[Rx hm];refine zJ Tryz.func99 Tryz.ntmps99 Tryz.results99 ?_;simp only[go_sem]
  (refine zW qw (z1 ((pT t p h hr).re (by rw[nh hm]))) X5 (z1 ?_)<;>(repeat with_reducible intro hc))
  all_goals first|omega|skip
  exact zEe @nd.eq_1
 ·unfold aw
  rw[Rw hm];refine zJ Tryz.func99 Tryz.ntmps99 Tryz.results99 ?_;simp only[go_sem]
  (refine zW qw (z1 ((pT t p h hr).re (by rw[nodeI_no hm]))) X5 (z1 ?_)<;>(repeat with_reducible intro hc))
  all_goals first|omega|skip
  exact zEe dfl
theorem DD{t:XI}(hp:∀ x,x∈t.nodes→x.path.length≤1048576)(k:Nat):(t.nodes.getD k default).path.length≤1048576:=by
 by_cases e:k<t.nodes.length
 ·exact hp _ (aZ t.nodes k e)
 ·rw[Ru,RX (by omega)];exact RI _
def dirsR(t:XI)(k:Nat):List (List UInt8):=(List.range t.nodes.length).map fun j=>if j<k then mH t j else[]
theorem Bj(t:XI)(k:Nat):(dirsR t k).length=t.nodes.length:=by unfold dirsR;simp
theorem Fx(t:XI):List.replicate t.nodes.length [DV.str []]=(dirsR t 0).map srow:=by
 unfold dirsR;apply SD;intro j;simp only[List.getElem?_replicate,RF,UE,S8]
 by_cases h:j<t.nodes.length
 ·rw[Rx h,TY h];rfl
 ·rw[Rw h,RX (by simpa using h)];rfl
theorem HX(t:XI)(k:Nat):(dirsR t k).set k (splitP (t.nodes.getD k default).path).1.1=dirsR t (k+1):=by
 unfold dirsR;apply SD;intro j;rw[Tc];simp only[RC,U9,RF]
 by_cases h:j<t.nodes.length
 ·rw[TY h]
  by_cases e:k=j
  ·subst e;simp[h,mH,nd]
  ·simp only[e,S8,Wl]
   congr 1
   by_cases h2:j<k
   ·rw[Rx h2,Rx (by omega)]
   ·rw[Rw h2,Rw (by omega)]
 ·rw[RX (l:=List.range _) (by simpa using h)]
  by_cases e:k=j
  ·subst e;simp[h]
  ·simp[e]
theorem vE(t:XI)(j:Nat)(h:j<t.nodes.length):(dirsR t t.nodes.length).getD j []=mH t j:=by unfold dirsR;rw[Ru,RF,TY h];simp[h]
def upN(t:XI)(i k:Nat):Bool:=decide (i=0)||(List.range k).any fun j=>decide ((nd t j).path=mH t i)
theorem K7(t:XI)(i:Nat):upN t i 0=decide (i=0):=by unfold upN;simp
theorem Bz(t:XI)(i k:Nat):upN t i (k+1)=(upN t i k||decide ((nd t k).path=mH t i)):=by unfold upN;rw[Vt,List.any_append,Bool.or_assoc];simp
theorem EU(t:XI)(i:Nat):upN t i t.nodes.length=true↔upB t i:=by
 unfold upN upB;rw[SC,RB,TN,aM _ []];constructor
 ·rintro(h|⟨j,hj,h⟩)
  ·exact .inl h
  ·rw[RB] at h
   rw[Ua] at hj;exact .inr ⟨j,by rw[aK];exact hj,by rw[aR];exact h⟩
 ·rintro(h|⟨j,hj,h⟩)
  ·exact .inl h
  ·rw[aK] at hj
   rw[aR] at h;exact .inr ⟨j,Ua.2 hj,by rw[RB];exact h⟩
def QA(t:XI)(i:Nat):Prop:=(((((((((upN t i t.nodes.length=true∧(nd t i).stat.kids=(kidsN t (nd t i).path t.nodes.length:Nat))∧0≤(nd t i).stat.version)∧(nd t i).stat.version<2147483648)∧0≤(nd t i).stat.cversion)∧(nd t i).stat.cversion<2147483648)∧
 0≤(nd t i).stat.czxid)∧(nd t i).stat.czxid≤(nd t i).stat.mzxid)∧(nd t i).stat.czxid≤(nd t i).stat.pzxid)∧(nd t i).stat.mzxid≤t.zxid)∧(nd t i).stat.pzxid≤t.zxid
theorem Bo{t:XI}{i:Nat}(h:QA t i)(ho:(nd t i).stat.owner≠0→(nd t i).stat.owner∈t.sessions∧kidsN t (nd t i).path t.nodes.length=0):pA t (nd t i).stat∧sF t (nd t i).stat∧upB t i∧(nd t i).stat.kids=kidsN t (nd t i).path t.nodes.length:=by obtain⟨⟨⟨⟨⟨⟨⟨⟨⟨⟨h1,h2⟩,h4⟩,h5⟩,h6⟩,h7⟩,h8⟩,h9⟩,h10⟩,h11⟩,h12⟩:=h;refine⟨⟨h4,by omega,h6,by omega,h8,h9,h10,h11,h12⟩,fun h0=>?_,(EU t i).1 h1,h2⟩;obtain⟨a,b⟩:=ho h0;exact⟨a,by rw[h2,b];rfl⟩
theorem cy(t:XI)(hw:t.wf)(hp:∀ x,x∈t.nodes→x.path.length≤1048576):ab Tryz.prog [] 167 [t.av] (ret (B (aS t))):=by
 have hok:=tZ hw;obtain⟨hz,⟨hn,hnw⟩,⟨hs,hsw⟩⟩:=hw;refine zJ Tryz.func167 Tryz.ntmps167 Tryz.results167 ?_;simp only[go_sem]
 (repeat' first
|(with_reducible refine AR.f ?_)
|refine bI (by decide) ?_
|(with_reducible refine AWP.cond rfl ?_ ?_<;>intro hc<;>(try simp only[hcs,RN,RY,RZ] at hc))
|((first|((first|(with_reducible first|refine zR ?_|refine zQ ?_|refine zD ?_|refine zE ?_|refine zG ?_));intro K hK)|((first|refine zA (ref_zgood_c t.zxid hz) ?_ ?_ ?_ ?_ ?_);(focus exact rfl);(focus exact rfl);iterate 2 (focus((try simp(disch:=omega) only[go_sem,aa])<;>(try omega)<;>fail)))|((first|refine zX (ref_zgood_c t.zxid hz) rfl ?_ ?_);(focus((try simp(disch:=omega) only[go_sem,aa])<;>(try omega)<;>fail)))|((first|(with_reducible refine aunder_i ?_ ?_<;>intro hg)|with_reducible intro hg)<;>(first|(exfalso;simp at hg;done)|(have hg':=hg;(try simp only[hcs,RN,RY,RZ] at hg');(try simp only[hg])))))<;>(try simp(disch:=omega) only[go_sem,aa])<;>(repeat' with_reducible refine Sg ?_ ?_)<;>(try(with_reducible refine hK _ ?_;clear hK K)))
|omega)
 ·(refine zE2 X5 ?_;(try simp(disch:=omega) only[go_sem,aa,I,B,S,zj]))
  refine sP fun⟨a1,a2,a3,a4,a5⟩=>?_
  rcases hc with(((h|h)|h)|h)|h
  ·omega
  ·omega
  ·exact h a3
  ·exact h a4
  ·exact h a5
 rotate_left
 ·simp_all
 ·(refine zE2 X5 ?_;(try simp(disch:=omega) only[go_sem,aa,I,B,S,zj]))
  refine sP fun⟨a1,a2,a3,a4,a5⟩=>?_
  rcases hg' with((h|h)|h)|h
  ·omega
  ·omega
  ·exact h a3
  ·exact h a4
 have hhead:jd t:=⟨by omega,by omega,hc.1.1.2,hc.1.2,hc.2⟩;have h400:t.nodes.length≤400:=by omega
 clear hc hg;refine WW (ι:=Nat) (fun k=>k≤t.sessions.length∧∀ j,j<k→eH t.sessions j) (fun k=>t.sessions.length-k) [1,48,49] (fun k=>[(50,I k)]) 0 ?_ (by simp(disch:=omega) only[go_sem,aa,SH]) ?_
 ·exact⟨by omega,fun j hj=>by omega⟩
 intro k ⟨hk,hk2⟩;simp only[go_sem]
 (refine zW qw zn @gb (z3 ?_ ?_ ?_)<;>(repeat with_reducible intro hc))
 ·(refine zE2 X5 ?_;(try simp(disch:=omega) only[go_sem,aa,I,B,S,zj]))
  refine EC (k:=k) (by omega) fun⟨a1,a2,a3⟩=>?_
  rcases hc with(h|h)|h
  ·omega
  ·omega
  ·exact absurd (a3 (by omega)) (by omega)
 ·refine⟨k+1,⟨by omega,fun j hj=>?_⟩,by omega,?_⟩
  ·by_cases e:j=k
   ·subst e;exact⟨hc.1.1,by omega,fun h0=>hc.2.resolve_left (by omega)⟩
   ·exact hk2 j (by omega)
  exact zSm X5
 have hss:∀ j,j<t.sessions.length→eH t.sessions j:=fun j hj=>hk2 j (by omega)
 clear hk2 hk hc;refine WQ (ι:=Nat) (fun k=>k≤t.nodes.length∧∀ j,j<k→kJ t j) (fun k=>t.nodes.length-k) [1,5,81,82] (fun k=>[(83,I k)]) (fun k=>[.cells [.d (.int .i64 t.zxid),.d (.sl 9 (t.nodes.map XG.row)),.d (.sl 1 (t.sessions.map a8))],.rows 1 ((dirsR t k).map srow)]) 0 ?_ ?_ ?_
 ·exact⟨by omega,fun j hj=>by omega⟩
 ·simp only[go_sem,←Fx];exact zSm X5
 intro i ⟨hi,hi2⟩;have hpi:=DD hp i;have hdl:=Bj t i;simp only[go_sem]
 (refine zW qw (z2 (bu _ hpi) (bC _ hpi)) (zx @gb (zx @ey (zx @List.append_eq.{0} (zx @wK @fa)))) (z3 ?_ ?_ ?_)<;>(repeat with_reducible intro hc))
 ·(refine zE2 X5 ?_;(try simp(disch:=omega) only[go_sem,aa,I,B,S,zj]))
  refine HN (k:=i) (by assumption) fun⟨a1,a2,a3⟩=>?_
  unfold nd at a1 a2 a3;rcases hc with(h|h)|⟨h0,h⟩
  ·rw[a1] at h;cases h
  ·omega
  ·have h1:=a3 (by omega)
   rcases h with h|h
   ·exact Sk _ (S9 h1 h)
   ·rw[h] at h1;exact Sk _ h1
 ·refine⟨i+1,⟨by omega,fun j hj=>?_⟩,by omega,?_⟩
  ·by_cases e:j=i
   ·subst e;exact⟨hc.1.1,by unfold nd;omega,fun h0=>(hc.2.resolve_left (by omega)) |> fun h=>gL h.1 h.2⟩
   ·exact hi2 j (by omega)
  rw[←HX t i];exact zFr [0,1] X5
 obtain rfl:i=t.nodes.length:=by omega
 clear hc;have hT:∀ j,j<t.nodes.length→kJ t j:=hi2;clear hi2 hpi hdl;refine WQ (ι:=Nat) (fun k=>k≤t.nodes.length∧∀ j,j<k→pA t (nd t j).stat∧sF t (nd t j).stat∧upB t j∧(nd t j).stat.kids=kidsN t (nd t j).path t.nodes.length) (fun k=>t.nodes.length-k) [1,5,126,127] (fun k=>[(128,I k)]) (fun k=>[.cells [.d (.int .i64 t.zxid),.d (.sl 9 (t.nodes.map XG.row)),.d (.sl 1 (t.sessions.map a8))],.rows 1 ((dirsR t t.nodes.length).map srow)]) 0 ?_ ?_ ?_
 ·exact⟨by omega,fun j hj=>by omega⟩
 ·simp only[go_sem];exact zSm X5
 intro j ⟨hj,hj2⟩;simp only[go_sem]
 (refine zW qw zn X5 (z2 ?_ ?_)<;>(repeat with_reducible intro hc))
 rotate_left
 ·(refine zE2 X5 ?_;(try simp(disch:=omega) only[go_sem,aa,I,B,S,zj]))
  exact(bi.2 ⟨hhead,hss,hT,fun q hq=>hj2 q (by omega)⟩).symm
 refine WQ (ι:=Nat) (fun k=>k≤t.nodes.length) (fun k=>t.nodes.length-k) [1,5,8,9,126,127,128,137] (fun k=>[(138,I k),(10,I (kidsN t (nd t j).path k)),(11,B (upN t j k))]) (fun k=>[.cells [.d (.int .i64 t.zxid),.d (.sl 9 (t.nodes.map XG.row)),.d (.sl 1 (t.sessions.map a8))],.rows 1 ((dirsR t t.nodes.length).map srow),.cells [S (t.nodes.getD j default).path,S (t.nodes.getD j default).data,I (t.nodes.getD j default).stat.czxid,I (t.nodes.getD j default).stat.mzxid,I (t.nodes.getD j default).stat.pzxid,I (t.nodes.getD j default).stat.version,I (t.nodes.getD j default).stat.cversion,I (t.nodes.getD j default).stat.owner,I (t.nodes.getD j default).stat.kids]]) 0 ?_ ?_ ?_
 ·omega
 ·simp only[go_sem,Dh,K7];exact zSm @WB
 intro k hk;have hkn:=Az t (nd t j).path k;have hdl:=Bj t t.nodes.length;simp only[go_sem]
 (repeat' first
|(with_reducible refine AR.f ?_)
|refine bI (by decide) ?_
|(with_reducible refine AWP.cond rfl ?_ ?_<;>intro hc<;>(try simp only[hcs,RN,RY,RZ] at hc))
|((first|((first|(with_reducible first|refine zR ?_|refine zQ ?_|refine zD ?_|refine zE ?_|refine zG ?_));intro K hK)|((first|refine acallH_sc (isOpen_c t _ hs) rfl rfl ?_ ?_ ?_|refine acallQ_sc (isOpen_c t _ hs) rfl rfl ?_ ?_ ?_);iterate 2 (focus((try simp(disch:=omega) only[go_sem,aa,UU,fa,vE])<;>(try omega)<;>fail)))|((first|refine zX (isOpen_c t _ hs) rfl ?_ ?_);(focus((try simp(disch:=omega) only[go_sem,aa,UU,fa,vE])<;>(try omega)<;>fail)))|((first|(with_reducible refine aunder_i ?_ ?_<;>intro hg)|with_reducible intro hg)<;>(first|(exfalso;simp at hg;done)|(have hg':=hg;(try simp only[hcs,RN,RY,RZ] at hg');(try simp only[hg])))))<;>(try simp(disch:=omega) only[go_sem,aa,UU,fa,vE])<;>(repeat' with_reducible refine Sg ?_ ?_)<;>(try(with_reducible refine hK _ ?_;clear hK K)))
|omega)
 ·refine⟨k+1,by omega,by omega,?_⟩
  rw[jt,Rx (show mH t k=(nd t j).path from hc),Bz]
  (refine ay.same ?_;simp(disch:=omega) only[go_sem,aa,Si,nd,B,I,Wh,U3])
  congr
 ·refine⟨k+1,by omega,by omega,?_⟩
  rw[jt,Rw (show ¬ mH t k=(nd t j).path from hc),Bz]
  (refine ay.same ?_;simp(disch:=omega) only[go_sem,aa,Si,nd,B,I,Wh,U3])
  congr
 ·(refine zE2 X5 ?_;(try simp(disch:=omega) only[go_sem,aa,I,B,S,zj]))
  obtain rfl:k=t.nodes.length:=by omega
  refine o7 (k:=j) (by assumption) fun⟨⟨b1,b2,b3,b4,b5,b6,b7,b8,b9⟩,_,hu,hkd⟩=>?_
  rw[←EU] at hu;have hkd':(t.nodes.getD j default).stat.kids=(kidsN t (nd t j).path t.nodes.length:Nat):=hkd;unfold nd at b1 b2 b3 b4 b5 b6 b7 b8 b9;rcases hc with(((((((((h|h)|h)|h)|h)|h)|h)|h)|h)|h)|h
  ·rw[hu] at h;cases h
  ·exact h hkd'
  all_goals omega
 ·(refine zE2 X5 ?_;(try simp(disch:=omega) only[go_sem,aa,I,B,S,zj]))
  obtain rfl:k=t.nodes.length:=by omega
  refine o7 (k:=j) (by assumption) fun⟨_,ho,_,hkd⟩=>?_
  obtain⟨o1,o2⟩:=ho hg';rcases hc with h|h
  ·exact h o1
  ·omega
 ·obtain rfl:k=t.nodes.length:=by omega
  refine⟨j+1,⟨by omega,fun q hq=>?_⟩,by omega,?_⟩
  ·by_cases e:q=j
   ·subst e;exact Bo (by assumption) (fun _=>⟨hc.1,by omega⟩)
   ·exact hj2 q (by omega)
  exact zFr [0,1] X5
 ·obtain rfl:k=t.nodes.length:=by omega
  refine⟨j+1,⟨by omega,fun q hq=>?_⟩,by omega,?_⟩
  ·by_cases e:q=j
   ·subst e;exact Bo (by assumption) (fun h=>absurd hg' h)
   ·exact hj2 q (by omega)
  exact zFr [0,1] X5
theorem Er(t:XI)(hw:t.wf):ab Tryz.prog [] 217 [t.av] (ret t.av):=by
 obtain⟨hz,⟨hn,hnw⟩,⟨hs,hsw⟩⟩:=hw;refine zJ Tryz.func217 Tryz.ntmps217 Tryz.results217 ?_;simp only[go_sem];refine zW qw zn X5 (z1 ?_)
 all_goals exact zEe X5
theorem pb:aS t00=true:=by decide +kernel
theorem qTw0:Pls [XE [0,1,3] (.fork 2 (XE [4,6,5,7,8,9] .done) 4 (XE [2,6,5,7,8,9] .done))]:=pls _
attribute [go_sem] Tryz.ntmps76 Tryz.results76
def lH(t:XI)(x:ATxn)(there:Int):Int:=
 if there=0 then 8 else if ¬ (aw t (splitP x.path).1.1).2=0 then(aw t (splitP x.path).1.1).2 else if ¬ (aw t (splitP x.path).1.1).1.stat.owner=0 then 11
 else if ¬ x.owner=0∧¬ x.owner=x.session then 12 else if 400≤t.nodes.length then 6 else 0
theorem ML(t:XI)(x:ATxn)(there:Int)(h:t.nodes.length*88≤140737488351232)(hp:okS x.path)(hr:aE (ar t)):ab Tryz.prog [] 120 [t.av,x.av,.d (.int .i64 there)] (ret (I (lH t x there))):=by
 unfold lH;refine zJ Tryz.func120 Tryz.ntmps120 Tryz.results120 ?_;simp only[go_sem]
 (refine zW qw (z2 (split_c x.path hp) (kV t (splitP x.path).1.1 h hr)) X5 (zc ?_ (zc ?_ (z4 ?_ ?_ ?_ ?_)))<;>(repeat with_reducible intro hc))
 all_goals(refine zE2 X5 ?_;(try simp(disch:=omega) only[go_sem,aa,I,B,S,zj]))
 all_goals first|(simp[*];done)|(simp only[*,Td,RS,SY,S8];split<;>first|rfl|omega|(exfalso;rename_i h;revert h;simp_all;done)|(exfalso;omega))|skip
def bv(t:XI)(x:ATxn):Int:=
 if aS t=false then 3 else if ¬ aT x=0 then aT x else if x.zxid≤t.zxid then 13
 else if x.op=1 then(if x.session∈t.sessions then 8 else 0)
 else if ¬ x.session∈t.sessions then 12
 else if x.op=3 then lH t x (aw t x.path).2
 else if x.op=4 then(if(aw t x.path).2=0∧0<(aw t x.path).1.stat.kids then 10 else(aw t x.path).2)
 else if x.op=5 then(if(aw t x.path).2=0∧¬ x.version=(aw t x.path).1.stat.version+1 then 9 else(aw t x.path).2)
 else 0
theorem nK(t:XI)(x:ATxn)(hw:t.wf)(hp:okS x.path)(hd:okS x.data):ab Tryz.prog [] 67 [t.av,x.av] (ret (I (bv t x))):=by
 obtain⟨h1,h2⟩:t.nodes.length*88≤140737488351232∧t.sessions.length*8≤140737488351232:=⟨hw.2.1.1,hw.2.2.1⟩;unfold bv
 by_cases hg:aS t=true
 ·have hr:=aF hg
  have hri:=fV hg
  have hv:-1000≤(aw t x.path).1.stat.version∧(aw t x.path).1.stat.version≤2147483647:=by
   unfold aw;split
   ·rename_i hm
    have hpl:=(ag hr hm).1;rw[aK] at hpl;obtain⟨b1,b2,_⟩:=((bi.1 hg).2.2.2 _ hpl).1;exact⟨by simp only;omega,b2⟩
   ·exact⟨by decide,by decide⟩
  refine zJ Tryz.func67 Tryz.ntmps67 Tryz.results67 ?_;simp only[go_sem]
  (refine zW qw (zc ((lk t hw).re (congrArg B hg)) (z4 (sJ x hp hd) (open_c t x.session h2 hri) (kV t x.path h1 hr) (ML t x _ h1 hp hr))) X5 (zc ?_ (zc ?_ (zc ?_ (zc ?_ (zc ?_ (zc ?_ (zc ?_ (z4 ?_ ?_ ?_ ?_))))))))<;>(repeat with_reducible intro hc))
  all_goals(refine zE2 X5 ?_;(try simp(disch:=omega) only[go_sem,aa,I,B,S,zj]))
  all_goals(repeat' split)
  all_goals first|rfl|(exfalso;omega)|(exfalso;simp_all;done)
 ·have hg2:aS t=false:=by simpa using hg
  refine zJ Tryz.func67 Tryz.ntmps67 Tryz.results67 ?_;simp only[go_sem]
  (refine zW qw (z1 ((lk t hw).re (congrArg B hg2))) X5 (z1 ?_)<;>(repeat with_reducible intro hc))
  all_goals(refine zE2 X5 ?_;(try simp(disch:=omega) only[go_sem,aa,I,B,S,zj]))
  rw[Rx hg2]
theorem Ap(l:List XG)(h:l.length*88≤140737488351232):ab Tryz.prog [] 121 [.d (.sl 9 (l.map XG.row))] (own 9 (l.map XG.row)):=by
 refine zJ Tryz.func121 Tryz.ntmps121 Tryz.results121 ?_;simp only[go_sem]
 (repeat' first
|(with_reducible refine AR.f ?_)
|refine bI (by decide) ?_
|(with_reducible refine AWP.cond rfl ?_ ?_<;>intro hc<;>(try simp only[hcs,RN,RY,RZ] at hc))
|((first|((first|(with_reducible first|refine zR ?_));intro K hK)|((first|(with_reducible refine aunder_i ?_ ?_<;>intro hg)|with_reducible intro hg)<;>(first|(exfalso;simp at hg;done)|(have hg':=hg;(try simp only[hcs,RN,RY,RZ] at hg');(try simp only[hg])))))<;>(try simp(disch:=omega) only[go_sem,aa])<;>(repeat' with_reducible refine Sg ?_ ?_)<;>(try(with_reducible refine hK _ ?_;clear hK K)))
|omega)
 ·have e:l.length=0:=by
   rcases Tp l.length with h0|h0
   ·exact h0
   ·rw[hg h0] at hc;simp at hc
  rw[gQ e]
  (refine mE (by first|exact .inl rfl|exact .inr rfl) rfl ?_ ?_<;>simp(disch:=omega) only[go_sem,aa])
 ·(refine mU 1 (by first|exact .inl rfl|exact .inr rfl) rfl ?_ rfl rfl ?_<;>(try simp(disch:=omega) only[go_sem,aa,RC]))
theorem CD(l:List Int)(h:l.length*8≤140737488351232):ab Tryz.prog [] 122 [.d (.sl 1 (l.map a8))] (own 1 (l.map a8)):=by
 refine zJ Tryz.func122 Tryz.ntmps122 Tryz.results122 ?_;simp only[go_sem]
 (repeat' first
|(with_reducible refine AR.f ?_)
|refine bI (by decide) ?_
|(with_reducible refine AWP.cond rfl ?_ ?_<;>intro hc<;>(try simp only[hcs,RN,RY,RZ] at hc))
|((first|((first|(with_reducible first|refine zR ?_));intro K hK)|((first|(with_reducible refine aunder_i ?_ ?_<;>intro hg)|with_reducible intro hg)<;>(first|(exfalso;simp at hg;done)|(have hg':=hg;(try simp only[hcs,RN,RY,RZ] at hg');(try simp only[hg])))))<;>(try simp(disch:=omega) only[go_sem,aa])<;>(repeat' with_reducible refine Sg ?_ ?_)<;>(try(with_reducible refine hK _ ?_;clear hK K)))
|omega)
 ·have e:l.length=0:=by
   rcases Tp l.length with h0|h0
   ·exact h0
   ·rw[hg h0] at hc;simp at hc
  rw[gQ e]
  (refine mE (by first|exact .inl rfl|exact .inr rfl) rfl ?_ ?_<;>simp(disch:=omega) only[go_sem,aa])
 ·(refine mU 1 (by first|exact .inl rfl|exact .inr rfl) rfl ?_ rfl rfl ?_<;>(try simp(disch:=omega) only[go_sem,aa,RC]))
theorem kj(t:XI)(h:t.nodes.length*88≤140737488351232)(h2:t.sessions.length*8≤140737488351232):ab Tryz.prog [] 68 [t.av] (ew (.agg [I t.zxid,.osl 0 9 0 t.nodes.length,.osl 1 1 0 t.sessions.length]) [.rows 9 (t.nodes.map XG.row),.rows 1 (t.sessions.map a8)]):=by
 refine zJ Tryz.func68 Tryz.ntmps68 Tryz.results68 ?_;simp only[go_sem];refine zW qw (z3 qTw0 (Ap _ h) (CD _ h2)) X5 (z2 ?_ ?_)
 all_goals(refine zOp X5 ?_;simp(disch:=omega) only[go_sem,aa];refine WV ?_ (af.same ⟨rfl,rfl⟩);refine zV [2,3] rfl rfl rfl rfl ?_ ?_<;>simp(disch:=omega) only[go_sem,aa,UL,UM])
def dM(n:XG):Bool:=decide (2147483647<n.stat.cversion)
def Cr(l:List XG):Int:=if l.any dM=true then(l.findIdx dM:Nat) else -1
theorem Ko{l:List XG}{k:Nat}(h:k<l.length)(h1:dM (l.getD k default)=true)(h2:∀ j,j<k→dM (l.getD j default)=false):Cr l=(k:Nat):=by
 rw[Ru,Rv h] at h1
 have e:l.findIdx dM=k:=(Vs h).2 ⟨h1,fun j hj=>by
  have:=h2 j hj
  rwa[Ru,Rv (by omega)] at this⟩
 unfold Cr;rw[Rx (TN.2 ⟨l[k],So h,h1⟩),e]
theorem nC{l:List XG}(h2:∀ j,j<l.length→dM (l.getD j default)=false):l.any dM=false∧Cr l=-1:=by
 have e:l.any dM=false:=by
  rw[Vd];intro x hx;obtain⟨j,hj,rfl⟩:=Ta hx
  have:=h2 j hj;rw[Ru,Rv hj] at this;simpa using this
 exact⟨e,by unfold Cr;rw[e];rfl⟩
theorem Hy(l:List XG)(h:l.length*88≤140737488351232):ab Tryz.prog [] 133 [.d (.sl 9 (l.map XG.row)),.d (.sc (.func (.func 76) #[] #[]))] (ret (I (Cr l))):=by
 refine zJ Tryz.func133 Tryz.ntmps133 Tryz.results133 ?_;simp only[go_sem];refine zW qw zn X5 (z1 ?_);refine WW (ι:=Nat) (fun k=>k≤l.length∧∀ j,j<k→dM (l.getD j default)=false) (fun k=>l.length-k) [0,1,7] (fun k=>[(8,I k)]) 0 ?_ (by simp(disch:=omega) only[go_sem,aa,SH]) ?_
 ·exact⟨by omega,fun j hj=>by omega⟩
 intro k ⟨hk,hk2⟩;simp only[go_sem]
 (refine zW qw (z1 (ic Tryz.func76)) X5 (z3 ?_ ?_ ?_)<;>(repeat with_reducible intro hc))
 ·rw[Ko (by assumption) (by unfold dM;rw[RB];exact hc) hk2]
  exact zEe X5
 ·refine⟨k+1,⟨by omega,fun j hj=>?_⟩,by omega,?_⟩
  ·by_cases e:j=k
   ·subst e;unfold dM;rw[RT];omega
   ·exact hk2 j (by omega)
  exact zFr [] X5
 ·rw[(nC (fun j hj=>hk2 j (by omega))).2]
  exact zEe X5
theorem J3(l:List XG):decide (0≤Cr l)=l.any dM:=by
 unfold Cr;split
 ·rename_i h;rw[h,RB];omega
 ·rename_i h;rw[show l.any dM=false from by simpa using h];rfl
theorem jr(l:List XG)(h:l.length*88≤140737488351232):ab Tryz.prog [] 75 [.d (.sl 9 (l.map XG.row)),.d (.sc (.func (.func 76) #[] #[]))] (ret (B (l.any dM))):=by rw[←J3];refine zJ Tryz.func75 Tryz.ntmps75 Tryz.results75 ?_;simp only[go_sem];refine zW qw (z1 (Hy l h)) X5 (z1 ?_);exact zEe X5
theorem qTp0:Pls [XE [0,1,2,3,4,6,7,8,9,10,11,12,13,14,15,16,17,18,19,20] (.fork 5 (XE [21,22,23,24,25,26] .done) 21 (XE [5,22,23,24,25,26] .done)),XE [0,1,2,3,5,6,7] (.fork 4 (XE [8,9,10,11,12] .done) 8 (XE [4,9,10,11,12] .done)),XE [0,1,2,3,4,5,6] (.fork 7 (XE [8,9,10] .done) 8 (XE [7,9,10] .done))]:=pls _
theorem qTp1:Pls [XE [0,1,2,3,4,5,6] (.fork 7 (XE [8,9,10] .done) 8 (XE [7,9,10] .done))]:=pls _
theorem qTp2:Pls [XE [0,1,2,3,4,5,6,7,8,9,10] .done,XE [0,1,2,3,4,5,6,7,8,9,10,11,12,13,14,16,17,18] (.fork 15 (XE [19,20,21,22,23] .done) 19 (XE [15,20,21,22,23] .done)),XE [0,1,2,3,5,6,7] (.fork 4 (XE [8,9,10,11,12] .done) 8 (XE [4,9,10,11,12] .done)),XE [0,1,2,3,4,5,6] (.fork 7 (XE [8,9,10] .done) 8 (XE [7,9,10] .done))]:=pls _
theorem qTp3:Pls [XE [0,1,2,3,4,6,7,8] (.fork 5 (XE [9,10,11,12,13,14] .done) 9 (XE [5,10,11,12,13,14] .done)),XE [0,1,2,3,4,5,6] (.fork 7 (XE [8,9,10] .done) 8 (XE [7,9,10] .done))]:=pls _
attribute [go_sem] Tryz.ntmps72 Tryz.results72 Tryz.ntmps73 Tryz.results73 Tryz.ntmps128 Tryz.results128
def pathsN(ns:List XG):List (List UInt8):=ns.map XG.path
def dirP(p:List UInt8):List UInt8:=(splitP p).1.1
def kidF(more z:Int)(n:XG):XG:=⟨n.path,n.data,⟨n.stat.czxid,n.stat.mzxid,z,n.stat.version,IntKind.i64.wrap (n.stat.cversion+1),n.stat.owner,IntKind.i64.wrap (n.stat.kids+more)⟩⟩
def kD(ns:List XG)(p:List UInt8)(more z:Int):List XG:=if dirP p∈pathsN ns then ns.set (place (pathsN ns) (dirP p)) (kidF more z (ns.getD (place (pathsN ns) (dirP p)) default)) else ns
def fx(ns:List XG)(p:List UInt8)(z:Int):List XG:=kD (ns.eraseIdx (place (pathsN ns) p)) p (-1) z
def mkN(x:ATxn):XG:=⟨x.path,x.data,⟨x.zxid,x.zxid,x.zxid,0,0,x.owner,0⟩⟩
def pP(ns:List XG)(x:ATxn):List XG:=kD (ns.insertIdx (place (pathsN ns) x.path) (mkN x)) x.path 1 x.zxid
def setF(x:ATxn)(n:XG):XG:=⟨n.path,x.data,⟨n.stat.czxid,x.zxid,n.stat.pzxid,x.version,n.stat.cversion,n.stat.owner,n.stat.kids⟩⟩
def setN(ns:List XG)(x:ATxn):List XG:=ns.set (place (pathsN ns) x.path) (setF x (ns.getD (place (pathsN ns) x.path) default))
def eT(p:List UInt8):List XL:=[⟨2,p⟩,⟨4,dirP p⟩]
def aQ(t:XI)(s z:Int):Nat→List XG×List XL
 |0=>(t.nodes,[])
 |k+1=>if(t.nodes.getD k default).stat.owner=s then(fx (aQ t s z k).1 (t.nodes.getD k default).path z,(aQ t s z k).2++eT (t.nodes.getD k default).path) else aQ t s z k
def cG(t:XI)(x:ATxn):XI×List XL:=
 if x.op=1 then(⟨x.zxid,t.nodes,t.sessions.insertIdx (bf t.sessions x.session) x.session⟩,[])
 else if x.op=2 then(⟨x.zxid,(aQ t x.session x.zxid t.nodes.length).1,t.sessions.eraseIdx (bf t.sessions x.session)⟩,(aQ t x.session x.zxid t.nodes.length).2)
 else if x.op=3 then(⟨x.zxid,pP t.nodes x,t.sessions⟩,[⟨1,x.path⟩,⟨4,dirP x.path⟩])
 else if x.op=4 then(⟨x.zxid,fx t.nodes x.path x.zxid,t.sessions⟩,eT x.path)
 else(⟨x.zxid,setN t.nodes x,t.sessions⟩,[⟨3,x.path⟩])
def ah(t:XI)(x:ATxn):XI×List XL×Int:=
 if ¬ bv t x=0 then(default,[],bv t x) else if(cG t x).1.nodes.any dM=true then(default,[],6) else((cG t x).1,(cG t x).2,0)
theorem mh{t:XI}{x:ATxn}(h:¬ bv t x=0):ah t x=(default,[],bv t x):=by unfold ah;rw[Rx h]
theorem cU{t:XI}{x:ATxn}(h:bv t x=0)(h2:(cG t x).1.nodes.any dM=true):ah t x=(default,[],6):=by unfold ah;rw[Rw (fun h'=>h' h),Rx h2]
theorem eA{t:XI}{x:ATxn}(h:bv t x=0)(h2:(cG t x).1.nodes.any dM=false):ah t x=((cG t x).1,(cG t x).2,0):=by unfold ah;rw[Rw (fun h'=>h' h),Rw (by rw[h2];decide)]
theorem fg{t:XI}{p:List UInt8}:(aw t p).2=0↔p∈ar t:=by
 by_cases h:p∈ar t
 ·unfold aw;rw[Rx h];exact⟨fun _=>h,fun _=>rfl⟩
 ·unfold aw;rw[Rw h];exact⟨fun h'=>(by cases h'),fun h'=>absurd h' h⟩
theorem lw{t:XI}{p:List UInt8}(h:¬ p∈ar t):(aw t p).2=7:=by unfold aw;rw[Rw h]
theorem cp{t:XI}{x:ATxn}(h:bv t x=0):aS t=true∧aT x=0∧t.zxid<x.zxid∧(x.op=1→¬ x.session∈t.sessions)∧(¬ x.op=1→x.session∈t.sessions)∧
  (x.op=3→¬ x.path∈ar t∧dirP x.path∈ar t∧t.nodes.length<400)∧(x.op=4→x.path∈ar t∧(aw t x.path).1.stat.kids≤0)∧(x.op=5→x.path∈ar t):=by
 unfold bv at h
 by_cases a1:aS t=true
 case neg=>rw[Rx (by simpa using a1)] at h;cases h
 rw[Rw (by simp[a1])] at h
 by_cases a2:aT x=0
 case neg=>rw[Rx a2] at h;exact absurd h a2
 rw[Rw (fun h=>h a2)] at h
 by_cases a3:x.zxid≤t.zxid
 ·rw[Rx a3] at h;cases h
 rw[Rw a3] at h
 have a5:¬ x.op=1→x.session∈t.sessions:=fun o=>by
  rw[Rw o] at h
  by_cases m:x.session∈t.sessions
  ·exact m
  ·rw[Rx m] at h;cases h
 refine⟨a1,a2,by omega,fun o=>?_,a5,fun o=>?_,fun o=>?_,fun o=>?_⟩
 ·rw[Rx o] at h
  intro m;rw[Rx m] at h;cases h
 ·rw[Rw (by omega),Rw (fun h=>h (a5 (by omega))),Rx o] at h
  unfold lH at h
  by_cases q1:(aw t x.path).2=0
  ·rw[Rx q1] at h;cases h
  rw[Rw q1] at h
  by_cases q2:(aw t (splitP x.path).1.1).2=0
  case neg=>rw[Rx q2] at h;exact absurd h q2
  rw[Rw (fun h=>h q2)] at h;split at h
  ·cases h
  ·split at h
   ·cases h
   ·split at h
    ·cases h
    ·exact⟨fun m=>q1 (fg.2 m),fg.1 q2,by omega⟩
 ·rw[Rw (by omega),Rw (fun h=>h (a5 (by omega))),Rw (by omega),Rx o] at h
  split at h
  ·cases h
  ·rename_i q;exact⟨fg.1 h,by omega⟩
 ·rw[Rw (by omega),Rw (fun h=>h (a5 (by omega))),Rw (by omega),Rw (by omega),Rx o] at h
  split at h
  ·cases h
  ·exact fg.1 h
theorem dk{x:ATxn}(h:aT x=0):1≤x.op∧x.op≤5∧1≤x.session∧v7 x=false:=by
 by_cases h1:x.op<1∨5<x.op
 ·rw[pY h1] at h;cases h
 by_cases h2:lV x=true
 case neg=>rw[fX (by omega) h2] at h;cases h
 by_cases h3:256<x.data.length
 ·rw[oE (by omega) h2 h3] at h;cases h
 rw[u4 (by omega) h2 (by omega)] at h;refine⟨by omega,by omega,((eF x).1 h2).2.1.1,?_⟩;cases e:v7 x
 ·rfl
 ·rw[e,Rx rfl] at h;cases h
theorem kU{x:ATxn}(h:aT x=0)(ho:3≤x.op∧x.op≤4):br x.path=true∧x.path≠[47]:=by
 obtain⟨_,_,_,hb⟩:=dk h;unfold v7 at hb;rw[Rw (by omega)] at hb;split at hb
 ·simp at hb;exact⟨hb.1,hb.2.1⟩
 ·rw[Rx (by omega)] at hb;simp at hb;exact⟨hb.1,hb.2.1⟩
theorem py(ns:List XG)(p:List UInt8)(m z:Int):(kD ns p m z).length=ns.length:=by unfold kD;split<;>simp
theorem yj{l:List (List UInt8)}{i:Nat}{x y:List UInt8}(h:i≤l.length):y∈l.insertIdx i x↔y=x∨y∈l:=TM h
theorem nL{l:List (List UInt8)}{key:List UInt8}(hr:aE l)(hm:¬ key∈l):aE (l.insertIdx (place l key) key):=by
 have hp:=fc l key;have lo:∀ j,j<place l key→l.getD j []<key:=fun j hj=>by have:=T4 (p:=fun x=>!decide (x<key)) (xs:=l) hj;rw[Ru,Rv (by omega)];simpa using this
 have hi:∀ j,place l key≤j→j<l.length→key<l.getD j []:=fun j h1 h2=>by
  have a:¬ l.getD (place l key) []<key:=by have:=Un (p:=fun x=>!decide (x<key)) (xs:=l) (w:=(by unfold place at h1;omega));rw[SN,RT] at this;rw[Ru,Rv (by omega)];exact this
  have b:key<l.getD (place l key) []:=gL a fun e=>hm (by rw[←e];exact bs _ _ (by omega))
  by_cases e:place l key=j
  ·rw[←e];exact b
  ·exact S9 b (aV hr (by omega) h2)
 generalize place l key=p at *
 intro k hk;rw[dB _ _ _ hp] at hk;have gt (q:Nat) (hq:p<q):(l.insertIdx p key).getD q []=l.getD (q-1) []:=by rw[cT _ _ _ hp,Ru,RG (by rw[RH];omega),RH,Sq hp,show q-p=(q-p-1)+1 from by omega,Th,Sz,Ru];congr 2;omega
 rcases TC (k+1) p with h|h|h
 ·rw[dI _ _ _ _ _ hp (by omega),dI _ _ _ _ _ hp (by omega)];exact hr k (by omega)
 ·subst h
  rw[dI _ _ _ _ _ hp (by omega),gr _ _ _ _ hp];exact lo k (by omega)
 ·rw[gt _ h,Tq]
  by_cases e:k=p
  ·subst e;rw[gr _ _ _ _ hp];exact hi _ (RE _) (by omega)
  ·rw[gt _ (by omega)]
   have:=hr (k-1) (by omega);rwa[show k-1+1=k from by omega] at this
theorem gj{l:List (List UInt8)}(hr:aE l)(i:Nat):aE (l.eraseIdx i):=by
 by_cases h:i<l.length
 ·intro k hk
  rw[cR _ _ h] at hk;have g (q:Nat):(l.eraseIdx i).getD q []=if q<i then l.getD q [] else l.getD (q+1) []:=by rw[Ru,List.getElem?_eraseIdx];split<;>rw[Ru]
  rw[g,g]
  split<;>split
  ·exact hr k (by omega)
  ·exact aV hr (by omega) (by omega)
  ·omega
  ·exact hr (k+1) (by omega)
 ·rw[VN (by omega)];exact hr
theorem lK(ns:List XG)(i:Nat)(n:XG):pathsN (ns.insertIdx i n)=(pathsN ns).insertIdx i n.path:=by unfold pathsN;exact(lv XG.path ns i n).symm
theorem ch(ns:List XG)(i:Nat):pathsN (ns.eraseIdx i)=(pathsN ns).eraseIdx i:=by unfold pathsN;exact(dY XG.path ns i).symm
theorem vG(ns:List XG)(i:Nat)(n:XG)(h:n.path=(ns.getD i default).path):pathsN (ns.set i n)=pathsN ns:=by
 unfold pathsN;apply SD;intro j;rw[RF,RF,Tc];split
 ·rename_i e;subst e
  split
  ·rename_i h2;rw[Ru,Rv h2] at h;rw[Rv h2];simp[h]
  ·rename_i h2;rw[RX (by omega)]
 ·rfl
theorem ov(ns:List XG)(p:List UInt8)(m z:Int):pathsN (kD ns p m z)=pathsN ns:=by
 unfold kD;split
 ·exact vG _ _ _ rfl
 ·rfl
theorem ao(ns:List XG):(pathsN ns).length=ns.length:=by unfold pathsN;simp
theorem Cy{s:List UInt8}(hg:br s=true)(h:s≠[47]):dirP s≠s:=by
 rcases la hg with e|⟨ps,p,h1,h2,h3,_⟩
 ·exact absurd e h
 ·unfold dirP
  rw[h2,ly h1 h3];intro e
  have:=congrArg dP e;rw[iI h1,iI (fun q hq=>h1 q (Sh.2 (.inl hq)))] at this
  have:=congrArg List.length this;simp at this
theorem gT{l:List (List UInt8)}{i:Nat}{y:List UInt8}(h:y∈l)(hy:l.getD i []≠y):y∈l.eraseIdx i:=by
 by_cases hi:i<l.length
 ·rw[eQ,Sh]
  have:l=l.take i++l.getD i []::l.drop (i+1):=by rw[Ru,Rv hi];simp
  rw[this,Sh,RP] at h;rcases h with h|h|h
  ·exact .inl h
  ·exact absurd h.symm hy
  ·exact .inr h
 ·rw[VN (by omega)];exact h
theorem yy{t:XI}(hg:aS t=true){p:List UInt8}(hm:p∈ar t)(h:p≠[47]):dirP p∈ar t∧dirP p≠p:=by
 have hr:=aF hg;have hpl:=(ag hr hm).1;have hpe:=(ag hr hm).2;rw[aK] at hpl;rw[aR] at hpe;obtain⟨_,_,a,b⟩:=bi.1 hg;have hgp:=(a _ hpl).1;rw[hpe] at hgp;refine⟨?_,Cy hgp h⟩;rcases(b _ hpl).2.2.1 with e|e
 ·rw[e,(cr hg).2.2.1] at hpe;exact absurd hpe.symm h
 ·unfold mH at e;rw[hpe] at e;exact e
theorem lg(z:Int)(ns:List XG)(ss:List Int)(key:List UInt8)(h:ns.length*88≤140737488351232)(hr:aE (pathsN ns)):ab Tryz.prog [] 74 [.agg [I z,.d (.sl 9 (ns.map XG.row)),.d (.sl 1 (ss.map a8))],S key] (ret (.tup [I (place (pathsN ns) key),B (decide (key∈pathsN ns))])):=
 zp ⟨z,ns,ss⟩ key h hr
theorem xd{l:List Int}{key:Int}(hr:fy l)(h:key∈l):bf l key<l.length:=by
 obtain⟨k,hk,e⟩:=(aM l default key).1 h
 have:bf l key=k:=qR (by omega) (fun j hj=>by rw[←e];exact fh hr hj hk) (fun _=>by rw[e];omega);omega
theorem ED{l:List Int}(h:∀ k,k<l.length→eH l k):∀ k,k<l.length→((k:Nat):Int)+1≤l.getD k default
 |0,hk=>by have:=(h 0 hk).1;omega
 | k+1,hk=>by
   have a:=ED h k (by omega);have b:=(h (k+1) hk).2.2 (by omega);rw[Tq] at b;omega
theorem mc{t:XI}(hg:aS t=true):t.sessions.length≤2147483647:=by
 have h:=(bi.1 hg).2.1;rcases Tp t.sessions.length with e|e
 ·omega
 ·have a:=ED h (t.sessions.length-1) (by omega)
  have b:=(h (t.sessions.length-1) (by omega)).2.1;omega
theorem IN(t:XI)(x:ATxn)(hw:t.wf)(hp:okS x.path)(hd:okS x.data)(h0:bv t x=0)(o3:x.op=3):ab Tryz.prog [] 32 [t.av,x.av] (ret (.tup [(ah t x).1.av,.d (.sl 2 ((ah t x).2.1.map XL.row)),I (ah t x).2.2])):=by
 have hwc:=nK t x hw hp hd;obtain⟨g1,g2,g3,g4,g5,g6,g7,g8⟩:=cp h0;obtain⟨h1,h2⟩:t.nodes.length*88≤140737488351232∧t.sessions.length*8≤140737488351232:=⟨hw.2.1.1,hw.2.2.1⟩;have hcp:=kj t h1 h2;have h400:t.nodes.length≤400:=(cr g1).2.1;rw[h0] at hwc;have hr:aE (pathsN t.nodes):=aF g1;obtain⟨m1,m2,hlt⟩:=g6 o3;have hf1:=lg x.zxid t.nodes t.sessions x.path h1 hr;have hpl:place (pathsN t.nodes) x.path≤(t.nodes.map XG.row).length:=by have:=fc (pathsN t.nodes) x.path;rw[ao] at this;rw[RC];exact this
 have hpl2:place (pathsN t.nodes) x.path≤t.nodes.length:=by rw[RC] at hpl;exact hpl
 have hdone:(cG t x)=(⟨x.zxid,pP t.nodes x,t.sessions⟩,[⟨1,x.path⟩,⟨4,dirP x.path⟩]):=by unfold cG;rw[Rw (by omega),Rw (by omega),Rx o3]
 generalize hN:t.nodes.insertIdx (place (pathsN t.nodes) x.path) (⟨x.path,x.data,⟨x.zxid,x.zxid,x.zxid,0,0,x.owner,0⟩⟩:XG)=ns1;have hN':t.nodes.insertIdx (place (pathsN t.nodes) x.path) (mkN x)=ns1:=hN;have hl1:ns1.length=t.nodes.length+1:=by rw[←hN,dB _ _ _ hpl2]
 have hp1:pathsN ns1=(pathsN t.nodes).insertIdx (place (pathsN t.nodes) x.path) x.path:=by rw[←hN,lK]
 have hr1:aE (pathsN ns1):=by rw[hp1];exact nL hr m1
 have hm1:dirP x.path∈pathsN ns1:=by rw[hp1,yj (by rw[ao];exact hpl2)];exact .inr m2
 have hq:=(ag hr1 hm1).1;rw[ao] at hq;have hadd:pP t.nodes x=ns1.set (place (pathsN ns1) (dirP x.path)) (kidF 1 x.zxid (ns1.getD (place (pathsN ns1) (dirP x.path)) default)):=by unfold pP kD;rw[hN',Rx hm1]
 have hf2:=(lg x.zxid ns1 t.sessions (dirP x.path) (by omega) hr1).re (by rw[decide_eq_true hm1]);rw[hadd] at hdone;generalize hn2:ns1.set (place (pathsN ns1) (dirP x.path)) (kidF 1 x.zxid (ns1.getD (place (pathsN ns1) (dirP x.path)) default))=ns2 at hdone;have hl2:ns2.length=t.nodes.length+1:=by rw[←hn2,RQ,hl1]
 have hcc:=jr ns2 (by omega);unfold kidF at hn2;have e1:(splitP x.path).1.1=dirP x.path:=rfl;have tk1:List.take (t.nodes.length+1) (ns1.map XG.row)=ns1.map XG.row:=Rz (by rw[RC];omega);have tk2:List.take (t.nodes.length+1) (ns2.map XG.row)=ns2.map XG.row:=Rz (by rw[RC];omega);refine zJ Tryz.func32 Tryz.ntmps32 Tryz.results32 ?_;simp only[go_sem]
 (refine zW qw (zc qTp0 (zc hwc (zc hcp (zc (ic Tryz.func73) (zc (ic Tryz.func128) (zc hf1 (z4 hf2 hcc (split_c x.path hp) (ow (Hf (t.nodes.map XG.row) [.str x.path,.str x.data,.int .i64 x.zxid,.int .i64 x.zxid,.int .i64 x.zxid,.int .i64 0,.int .i64 0,.int .i64 x.owner,.int .i64 0] (place (pathsN t.nodes) x.path) hpl (by rw[RC];omega)))))))))) (zx @o3 (zx @XG.rins (zx @hN (zx @hl1 (zx @e1 (zx @hn2 (zx @hl2 (zx @tk1 (zx @tk2 (zx @XG.rgetD (zx @bt (zx @XG.rset (zx @az @List.set_set.{0}))))))))))))) (z2 ?_ ?_)<;>(repeat with_reducible intro hc))
 all_goals first
  |(rw[cU h0 (by rw[hdone];exact hc)];exact zEf dfl;done)
  |(rw[eA h0 (by rw[hdone];exact hc),hdone];exact zEf @tk2;done)
theorem L7(t:XI)(x:ATxn)(hw:t.wf)(hp:okS x.path)(hd:okS x.data)(h0:bv t x=0)(o4:x.op=4):ab Tryz.prog [] 32 [t.av,x.av] (ret (.tup [(ah t x).1.av,.d (.sl 2 ((ah t x).2.1.map XL.row)),I (ah t x).2.2])):=by
 have hwc:=nK t x hw hp hd;obtain⟨g1,g2,g3,g4,g5,g6,g7,g8⟩:=cp h0;obtain⟨h1,h2⟩:t.nodes.length*88≤140737488351232∧t.sessions.length*8≤140737488351232:=⟨hw.2.1.1,hw.2.2.1⟩;have hcp:=kj t h1 h2;have h400:t.nodes.length≤400:=(cr g1).2.1;rw[h0] at hwc;have hr:aE (pathsN t.nodes):=aF g1;obtain⟨m1,_⟩:=g7 o4;have hnr:x.path≠[47]:=(kU g2 (by omega)).2;obtain⟨m2,m3⟩:=yy g1 m1 hnr;have hf1:=(lg x.zxid t.nodes t.sessions x.path h1 hr).re (by rw[decide_eq_true (show x.path∈pathsN t.nodes from m1)]);have hpf:=ag hr m1;have hpl:place (pathsN t.nodes) x.path<(t.nodes.map XG.row).length:=by have:=hpf.1;rw[RC];rwa[ao] at this
 have hpl2:place (pathsN t.nodes) x.path<t.nodes.length:=by rw[RC] at hpl;exact hpl
 have hdone:(cG t x)=(⟨x.zxid,fx t.nodes x.path x.zxid,t.sessions⟩,eT x.path):=by unfold cG;rw[Rw (by omega),Rw (by omega),Rw (by omega),Rx o4]
 generalize hN:t.nodes.eraseIdx (place (pathsN t.nodes) x.path)=ns1;have hl1:ns1.length=t.nodes.length-1:=by rw[←hN,cR _ _ hpl2]
 have hp1:pathsN ns1=(pathsN t.nodes).eraseIdx (place (pathsN t.nodes) x.path):=by rw[←hN,ch]
 have hr1:aE (pathsN ns1):=by rw[hp1];exact gj hr _
 have hm1:dirP x.path∈pathsN ns1:=by rw[hp1];exact gT m2 (by rw[hpf.2];exact m3.symm)
 have hq:=(ag hr1 hm1).1;rw[ao] at hq;have hadd:fx t.nodes x.path x.zxid=ns1.set (place (pathsN ns1) (dirP x.path)) (kidF (-1) x.zxid (ns1.getD (place (pathsN ns1) (dirP x.path)) default)):=by unfold fx kD;rw[hN,Rx hm1]
 have hf2:=(lg x.zxid ns1 t.sessions (dirP x.path) (by omega) hr1).re (by rw[decide_eq_true hm1]);rw[hadd] at hdone;generalize hn2:ns1.set (place (pathsN ns1) (dirP x.path)) (kidF (-1) x.zxid (ns1.getD (place (pathsN ns1) (dirP x.path)) default))=ns2 at hdone;have hl2:ns2.length=t.nodes.length-1:=by rw[←hn2,RQ,hl1]
 have hcc:=jr ns2 (by omega);unfold kidF at hn2;have e1:(splitP x.path).1.1=dirP x.path:=rfl;have tk1:List.take (t.nodes.length-1) (ns1.map XG.row)=ns1.map XG.row:=Rz (by rw[RC];omega);have tk2:List.take (t.nodes.length-1) (ns2.map XG.row)=ns2.map XG.row:=Rz (by rw[RC];omega);refine zJ Tryz.func32 Tryz.ntmps32 Tryz.results32 ?_;simp only[go_sem]
 (refine zW qw (zc qTp1 (zc hwc (zc hcp (zc (ic Tryz.func72) (zc (ic Tryz.func128) (zc hf1 (z4 hf2 hcc (split_c x.path hp) (ow (wR (t.nodes.map XG.row) (place (pathsN t.nodes) x.path) hpl (by rw[RC];omega)))))))))) (zx @o4 (zx @dY (zx @hN (zx @hl1 (zx @e1 (zx @hn2 (zx @hl2 (zx @tk1 (zx @tk2 (zx @XG.rgetD (zx @bt (zx @XG.rset (zx @az @List.set_set.{0}))))))))))))) (z2 ?_ ?_)<;>(repeat with_reducible intro hc))
 all_goals first
  |(rw[cU h0 (by rw[hdone];exact hc)];(refine zF rfl ?_ ?_ ?_ ?_;(iterate 3 (focus((try simp(disch:=omega) only[go_sem,aa,default])<;>(try omega)<;>fail)));(try simp(disch:=omega) only[go_sem,aa,default,I,B,S,zj]));done)
  |(rw[eA h0 (by rw[hdone];exact hc),hdone];(refine zF rfl ?_ ?_ ?_ ?_;(iterate 3 (focus((try simp(disch:=omega) only[go_sem,aa,tk2,eT])<;>(try omega)<;>fail)));(try simp(disch:=omega) only[go_sem,aa,tk2,eT,I,B,S,zj]));done)
theorem JL(t:XI)(x:ATxn)(hw:t.wf)(hp:okS x.path)(hd:okS x.data)(h0:bv t x=0)(o5:x.op=5):ab Tryz.prog [] 32 [t.av,x.av] (ret (.tup [(ah t x).1.av,.d (.sl 2 ((ah t x).2.1.map XL.row)),I (ah t x).2.2])):=by
 have hwc:=nK t x hw hp hd;obtain⟨g1,g2,g3,g4,g5,g6,g7,g8⟩:=cp h0;obtain⟨h1,h2⟩:t.nodes.length*88≤140737488351232∧t.sessions.length*8≤140737488351232:=⟨hw.2.1.1,hw.2.2.1⟩;have hcp:=kj t h1 h2;have h400:t.nodes.length≤400:=(cr g1).2.1;rw[h0] at hwc;have hr:aE (pathsN t.nodes):=aF g1;have m1:=g8 o5;have hf1:=(lg x.zxid t.nodes t.sessions x.path h1 hr).re (by rw[decide_eq_true (show x.path∈pathsN t.nodes from m1)]);have hq:=(ag hr m1).1;rw[ao] at hq;have hdone:(cG t x)=(⟨x.zxid,setN t.nodes x,t.sessions⟩,[⟨3,x.path⟩]):=by unfold cG;rw[Rw (by omega),Rw (by omega),Rw (by omega),Rw (by omega)]
 have hadd:setN t.nodes x=t.nodes.set (place (pathsN t.nodes) x.path) (setF x (t.nodes.getD (place (pathsN t.nodes) x.path) default)):=rfl;rw[hadd] at hdone;generalize hn2:t.nodes.set (place (pathsN t.nodes) x.path) (setF x (t.nodes.getD (place (pathsN t.nodes) x.path) default))=ns2 at hdone;have hl2:ns2.length=t.nodes.length:=by rw[←hn2,RQ]
 have hcc:=jr ns2 (by omega);unfold setF at hn2;have tk2:List.take t.nodes.length (ns2.map XG.row)=ns2.map XG.row:=Rz (by rw[RC];omega);refine zJ Tryz.func32 Tryz.ntmps32 Tryz.results32 ?_;simp only[go_sem]
 (refine zW qw (zc qTp2 (z4 hwc hcp hf1 hcc)) (zx @o5 (zx @hn2 (zx @hl2 (zx @tk2 (zx @XG.rgetD (zx @bt (zx @XG.rset (zx @az @List.set_set.{0})))))))) (z4 ?_ ?_ ?_ ?_)<;>(repeat with_reducible intro hc))
 all_goals first
  |(rw[cU h0 (by rw[hdone];exact hc)];exact zEf dfl;done)
  |(rw[eA h0 (by rw[hdone];exact hc),hdone];exact zEf @tk2;done)
theorem I8(t:XI)(x:ATxn)(hw:t.wf)(hp:okS x.path)(hd:okS x.data)(h0:bv t x=0)(o1:x.op=1):ab Tryz.prog [] 32 [t.av,x.av] (ret (.tup [(ah t x).1.av,.d (.sl 2 ((ah t x).2.1.map XL.row)),I (ah t x).2.2])):=by
 have hwc:=nK t x hw hp hd;obtain⟨g1,g2,g3,g4,g5,g6,g7,g8⟩:=cp h0;obtain⟨h1,h2⟩:t.nodes.length*88≤140737488351232∧t.sessions.length*8≤140737488351232:=⟨hw.2.1.1,hw.2.2.1⟩;have hcp:=kj t h1 h2;have h400:t.nodes.length≤400:=(cr g1).2.1;rw[h0] at hwc;have hri:fy t.sessions:=fV g1;have hss:t.sessions.length≤2147483647:=mc g1;have hb1:=yc t.sessions x.session h2 hri;have hpl:bf t.sessions x.session≤(t.sessions.map a8).length:=by rw[RC];exact Ts
 have hpl2:bf t.sessions x.session≤t.sessions.length:=Ts;have hdone:(cG t x)=(⟨x.zxid,t.nodes,t.sessions.insertIdx (bf t.sessions x.session) x.session⟩,[]):=by unfold cG;rw[Rx o1]
 generalize hN:t.sessions.insertIdx (bf t.sessions x.session) x.session=ss1 at hdone;have hl1:ss1.length=t.sessions.length+1:=by rw[←hN,dB _ _ _ hpl2]
 have hri1:(t.sessions.map a8).insertIdx (bf t.sessions x.session) [DV.int .i64 x.session]=ss1.map a8:=by rw[←hN];exact lv a8 t.sessions _ x.session
 have tk2:List.take (t.sessions.length+1) (ss1.map a8)=ss1.map a8:=Rz (by rw[RC];omega);have hcc:=jr t.nodes h1;refine zJ Tryz.func32 Tryz.ntmps32 Tryz.results32 ?_;simp only[go_sem]
 (refine zW qw (zc qTp3 (zc hwc (z4 hcp hb1 hcc (ow (H0 (t.sessions.map a8) [.int .i64 x.session] (bf t.sessions x.session) hpl (by rw[RC];omega)))))) (zx @o1 (zx @hri1 (zx @hl1 @tk2))) (z4 ?_ ?_ ?_ ?_)<;>(repeat with_reducible intro hc))
 all_goals first
  |(rw[cU h0 (by rw[hdone];exact hc)];exact zEf dfl;done)
  |(rw[eA h0 (by rw[hdone];exact hc),hdone];exact zEf @tk2;done)
theorem qTc0:Pls [XE [0,1,2,3,4,5,6] (.fork 7 (XE [8,9,10] .done) 8 (XE [7,9,10] .done))]:=pls _
attribute [go_sem] Tryz.ntmps72 Tryz.results72 Tryz.ntmps128 Tryz.results128
theorem Hp{t:XI}{p:List UInt8}{n:Nat}(h:kidsN t p n=0){j:Nat}(hj:j<n):mH t j≠p:=by
 unfold kidsN at h;rw[U4,Tu] at h
 have:=h j (Ua.2 hj);simpa using this
structure CloseOk (t:XI) (s:Int) (k:Nat) (ns:List XG) (es:List XL):Prop where
 rises:aE (pathsN ns)
 rest:∀ j,k≤j→j<t.nodes.length→(nd t j).path∈pathsN ns
 dirs:∀ j,j<t.nodes.length→(nd t j).stat.owner=s→dirP (nd t j).path∈pathsN ns
 len:ns.length≤t.nodes.length
 elen:es.length≤2*k
theorem nz{t:XI}{s z:Int}(hg:aS t=true)(hs:1≤s){k:Nat}(hk:k<t.nodes.length)(ho:(nd t k).stat.owner=s):br (nd t k).path=true∧dirP (nd t k).path∈ar t∧dirP (nd t k).path≠(nd t k).path∧∀ j,j<t.nodes.length→dirP (nd t j).path≠(nd t k).path:=by
 obtain⟨hh,_,hA,hB⟩:=bi.1 hg;have hmem:(nd t k).path∈ar t:=by rw[←aR];exact bs _ _ (by rw[aK];exact hk)
 have hnr:(nd t k).path≠[47]:=fun e=>by
  have h0:k=0:=by
   apply R4;intro hk0
   have:=tT (t:=t) (i:=k) (fun j hj=>hA j (by omega)) (by omega);rw[hh.2.2.1,e] at this;exact Sk _ this
  subst h0;rw[hh.2.2.2.1] at ho;omega
 obtain⟨a,b⟩:=yy hg hmem hnr;refine⟨(hA k hk).1,a,b,fun j hj=>?_⟩;obtain⟨_,c,_,d⟩:=hB k hk;have hz:=(c (by omega)).2;rw[hz] at d;exact Hp (by omega) hj
theorem mF{t:XI}{s z:Int}(hg:aS t=true)(hs:1≤s):∀ k,k≤t.nodes.length→CloseOk t s k (aQ t s z k).1 (aQ t s z k).2
 |0,_=>⟨aF hg,fun j _ hj=>by show(nd t j).path∈ar t;rw[←aR];exact bs _ _ (by rw[aK];exact hj),fun j hj ho=>(nz (z:=z) hg hs hj ho).2.1,RE _,RE _⟩
 | k + 1,h=>by
   have ih:=mF (z:=z) hg hs k (by omega);unfold aQ
   by_cases ho:(t.nodes.getD k default).stat.owner=s
   ·rw[Rx ho]
    have hm:=ih.rest k (RE _) (by omega);have hpf:=ag ih.rises hm;obtain⟨_,_,_,hne⟩:=nz (z:=z) hg hs (k:=k) (by omega) ho;have hp:pathsN (fx (aQ t s z k).1 (t.nodes.getD k default).path z)=(pathsN (aQ t s z k).1).eraseIdx (place (pathsN (aQ t s z k).1) (nd t k).path):=by unfold fx;rw[ov,ch];rfl
    refine⟨by rw[hp];exact gj ih.rises _,fun j hj hj2=>?_,fun j hj hjo=>?_,?_,?_⟩
    ·rw[hp]
     refine gT (ih.rest j (by omega) hj2) ?_;rw[hpf.2]
     have:=aV (aF hg) (i:=k) (j:=j) (by omega) (by rw[aK];exact hj2);rw[aR,aR] at this;intro e;rw[e] at this;exact Sk _ this
    ·rw[hp]
     refine gT (ih.dirs j hj hjo) ?_;rw[hpf.2];exact(hne j hj).symm
    ·have hl:=hpf.1
     rw[ao] at hl;show(fx _ _ _).length≤_;unfold fx;rw[py]
     have:=cR _ _ hl;unfold nd at this;rw[this]
     have:=ih.len;omega
    ·show((aQ t s z k).2++eT _).length≤_
     rw[Ry];have:=ih.elen;unfold eT;simp only[RD,R1];omega
   ·rw[Rw ho]
    exact⟨ih.rises,fun j hj hj2=>ih.rest j (by omega) hj2,ih.dirs,ih.len,by have:=ih.elen;omega⟩
theorem Iz(t:XI)(x:ATxn)(hw:t.wf)(hp:okS x.path)(hd:okS x.data)(h0:bv t x=0)(o2:x.op=2):ab Tryz.prog [] 32 [t.av,x.av] (ret (.tup [(ah t x).1.av,.d (.sl 2 ((ah t x).2.1.map XL.row)),I (ah t x).2.2])):=by
 have hwc:=nK t x hw hp hd;obtain⟨g1,g2,g3,g4,g5,g6,g7,g8⟩:=cp h0;obtain⟨h1,h2⟩:t.nodes.length*88≤140737488351232∧t.sessions.length*8≤140737488351232:=⟨hw.2.1.1,hw.2.2.1⟩;have hcp:=kj t h1 h2;have h400:t.nodes.length≤400:=(cr g1).2.1;rw[h0] at hwc;have hri:fy t.sessions:=fV g1;have ms:=g5 (by omega);have hb1:=(yc t.sessions x.session h2 hri).re (by rw[decide_eq_true ms]);have hpl:bf t.sessions x.session<(t.sessions.map a8).length:=by rw[RC];exact xd hri ms
 have hpl2:bf t.sessions x.session<t.sessions.length:=by rw[RC] at hpl;exact hpl
 have hdone:(cG t x)=(⟨x.zxid,(aQ t x.session x.zxid t.nodes.length).1,t.sessions.eraseIdx (bf t.sessions x.session)⟩,(aQ t x.session x.zxid t.nodes.length).2):=by unfold cG;rw[Rw (by omega),Rx o2]
 generalize hN:t.sessions.eraseIdx (bf t.sessions x.session)=ss1 at hdone;have hl1:ss1.length=t.sessions.length-1:=by rw[←hN,cR _ _ hpl2]
 refine zJ Tryz.func32 Tryz.ntmps32 Tryz.results32 ?_;simp only[go_sem]
 (refine zW qw (z4 hwc hcp hb1 (ow (I6 (t.sessions.map a8) (bf t.sessions x.session) hpl (by rw[RC];omega)))) (zx @o2 (zx @dY (zx @hN @hl1))) (z1 ?_)<;>(repeat with_reducible intro hc))
 refine WR (W8 5 3 2 rfl rfl) ?_;simp only[go_sem];refine WQ (ι:=Nat) (fun k=>k≤t.nodes.length) (fun k=>t.nodes.length-k) [3,4,8,90,91] (fun k=>[(92,I k)]) (fun k=>[.cells [.d (.int .i64 t.zxid),.d (.sl 9 (t.nodes.map XG.row)),.d (.sl 1 (t.sessions.map a8))],.cells [I x.zxid,I 2,I x.session,S x.path,S x.data,I x.version,I x.owner],.cells [I 0,.d (.sc (.slice none 0 0)),.d (.sc (.slice none 0 0))],.rows 9 ((aQ t x.session x.zxid k).1.map XG.row),.dead,.cells [I x.zxid,.osl 3 9 0 (aQ t x.session x.zxid k).1.length,.osl 6 1 0 (t.sessions.length-1),.osl 7 2 0 (aQ t x.session x.zxid k).2.length],.rows 1 (ss1.map a8),.rows 2 ((aQ t x.session x.zxid k).2.map XL.row)]) 0 ?_ ?_ ?_
 ·omega
 ·simp only[go_sem,aQ];exact zSm X5
 intro k hk;have ci:=mF (z:=x.zxid) g1 (dk g2).2.2.1 k hk;have hnext:aQ t x.session x.zxid (k+1)=if(t.nodes.getD k default).stat.owner=x.session then(fx (aQ t x.session x.zxid k).1 (t.nodes.getD k default).path x.zxid,(aQ t x.session x.zxid k).2++eT (t.nodes.getD k default).path) else aQ t x.session x.zxid k:=rfl
 simp only[go_sem]
 by_cases hkk:k<t.nodes.length
 case neg=>
  obtain rfl:k=t.nodes.length:=by omega
  generalize aQ t x.session x.zxid t.nodes.length=cl at ci hdone;obtain⟨ns,es⟩:=cl;have hcc:=jr ns (by have:=ci.len;simp only at this;omega);have tks:List.take (t.sessions.length-1) (ss1.map a8)=ss1.map a8:=Rz (by rw[RC];omega)
  (refine zW qw (z2 qTc0 hcc) X5 (z2 ?_ ?_)<;>(repeat with_reducible intro hc))
  all_goals first
   |(rw[cU h0 (by rw[hdone];exact hc)];exact zEf dfl;done)
   |(rw[eA h0 (by rw[hdone];exact hc),hdone];exact zEf (zx @tks (zx @I.eq_1 @S.eq_1));done)
 by_cases how:(t.nodes.getD k default).stat.owner=x.session
 ·rw[Rx how] at hnext
  have hone:=nz (z:=x.zxid) g1 (dk g2).2.2.1 hkk how;have hokp:=(tZ hw k).1;have hm:=ci.rest k (RE _) hkk;have hdir:=ci.dirs k hkk how;have hr:=ci.rises;have hlen:=ci.len;have helen:=ci.elen;clear ci;unfold nd at hone hm hdir;generalize aQ t x.session x.zxid k=cl at hnext hm hdir hr hlen helen;obtain⟨ns,es⟩:=cl;simp only at hnext hm hdir hr hlen helen;generalize hpp:(t.nodes.getD k default).path=p at hnext hm hdir hone hokp;have hf1:=(lg x.zxid ns ss1 p (by omega) hr).re (by rw[decide_eq_true hm]);have hpf:=ag hr hm;have hdpl:place (pathsN ns) p<(ns.map XG.row).length:=by have:=hpf.1;rw[RC];rwa[ao] at this
  have hdpl2:place (pathsN ns) p<ns.length:=by rw[RC] at hdpl;exact hdpl
  generalize hM:ns.eraseIdx (place (pathsN ns) p)=ns1;have hlm:ns1.length=ns.length-1:=by rw[←hM,cR _ _ hdpl2]
  have hp1:pathsN ns1=(pathsN ns).eraseIdx (place (pathsN ns) p):=by rw[←hM,ch]
  have hr1:aE (pathsN ns1):=by rw[hp1];exact gj hr _
  have hm1:dirP p∈pathsN ns1:=by rw[hp1];exact gT hdir (by rw[hpf.2];exact hone.2.2.1.symm)
  have hq:=(ag hr1 hm1).1;rw[ao] at hq;have hadd:fx ns p x.zxid=ns1.set (place (pathsN ns1) (dirP p)) (kidF (-1) x.zxid (ns1.getD (place (pathsN ns1) (dirP p)) default)):=by unfold fx kD;rw[hM,Rx hm1]
  have hf2:=(lg x.zxid ns1 ss1 (dirP p) (by omega) hr1).re (by rw[decide_eq_true hm1]);rw[hadd] at hnext;generalize hn2:ns1.set (place (pathsN ns1) (dirP p)) (kidF (-1) x.zxid (ns1.getD (place (pathsN ns1) (dirP p)) default))=ns2 at hnext;have hl2:ns2.length=ns.length-1:=by rw[←hn2,RQ,hlm]
  unfold kidF at hn2;have e1:(splitP p).1.1=dirP p:=rfl;have tk1:List.take (ns.length-1) (ns1.map XG.row)=ns1.map XG.row:=Rz (by rw[RC];omega);have tks:List.take (t.sessions.length-1) (ss1.map a8)=ss1.map a8:=Rz (by rw[RC];omega)
  (refine zW qw (zc (ic Tryz.func72) (zc (ic Tryz.func128) (z4 hf1 hf2 (split_c p hokp) (ow (wR (ns.map XG.row) (place (pathsN ns) p) hdpl (by rw[RC];omega)))))) (zx @how (zx @hpp (zx @dY (zx @hM (zx @hlm (zx @e1 (zx @hn2 (zx @hl2 (zx @tk1 (zx @tks (zx @XG.rgetD (zx @bt (zx @XG.rset (zx @az (zx @List.set_set.{0} (zx @XL.rsnoc (zx @ax @eE))))))))))))))))) (z1 ?_)<;>(repeat with_reducible intro hc))
  refine⟨k+1,by omega,by omega,?_⟩;rw[hnext];exact zFr [0,1,2,9,4,5,6,13] (zx @eT.eq_1 (zx @List.length_append.{0} (zx @List.append_assoc.{0} (zx @List.cons_append.{0} (zx @List.nil_append.{0} (zx @hl2 (zx @tks (zx @SL (zx @I.eq_1 @S.eq_1)))))))))
 ·rw[Rw how] at hnext
  (refine zW qw zn X5 (z1 ?_)<;>(repeat with_reducible intro hc))
  refine⟨k+1,by omega,by omega,?_⟩;rw[hnext];exact zFr [0,1,2,3,4,5,6,7] X5
theorem iA(t:XI)(x:ATxn)(hw:t.wf)(hp:okS x.path)(hd:okS x.data):ab Tryz.prog [] 32 [t.av,x.av] (ret (.tup [(ah t x).1.av,.d (.sl 2 ((ah t x).2.1.map XL.row)),I (ah t x).2.2])):=by
 by_cases h0:bv t x=0
 case neg=>
  have hwc:=nK t x hw hp hd;rw[mh h0];refine zJ Tryz.func32 Tryz.ntmps32 Tryz.results32 ?_;simp only[go_sem]
  (refine zW qw (z1 hwc) X5 (z1 ?_)<;>(repeat with_reducible intro hc))
  all_goals try exact zk1
  exact zEe dfl
 obtain⟨o1,o2,_,_⟩:=dk (cp h0).2.1;rcases(by omega:x.op=1∨x.op=2∨x.op=3∨x.op=4∨x.op=5) with o|o|o|o|o
 ·exact I8 t x hw hp hd h0 o
 ·exact Iz t x hw hp hd h0 o
 ·exact IN t x hw hp hd h0 o
 ·exact L7 t x hw hp hd h0 o
 ·exact JL t x hw hp hd h0 o
attribute [go_sem] Tryz.ntmps218 Tryz.results218
theorem kT(z:Int)(ns:List XG)(ss:List Int)(key:List UInt8)(h:ns.length*88≤140737488351232)(hr:aE (pathsN ns)):ab Tryz.prog [] 163 [.agg [I z,.d (.sl 9 (ns.map XG.row)),.d (.sl 1 (ss.map a8))],S key] (ret (I (tu ⟨z,ns,ss⟩ key))):=
 pT ⟨z,ns,ss⟩ key h hr
theorem yA(t:XI)(x:ATxn)(hw:t.wf)(hps:∀ n,n∈t.nodes→n.path.length≤1048576)(hz:okI x.zxid)(hp:x.path.length≤1048576)(hd:okS x.data)(h0:¬ bv t x=0):ab Tryz.prog [] 157 [t.av,x.av] (ret (.tup [(default:XI).av,.d (.sl 2 (([]:List XL).map XL.row)),I (bv t x)])):=by
 have h1:=hw.2.1.1;have h2:=hw.2.2.1
 by_cases a1:aS t=true
 case neg=>
  have e:bv t x=3:=by unfold bv;rw[Rx (by simpa using a1)]
  rw[e];refine zJ Tryz.func157 Tryz.ntmps157 Tryz.results157 ?_;simp only[go_sem]
  (refine zW qw (z2 ((cy t hw hps).re (congrArg B (by simpa using a1))) (ic Tryz.func218)) X5 (z1 ?_)<;>(repeat with_reducible intro hc))
  exact zEe dfl
 have hr:=aF a1;have hgc:=(cy t hw hps).re (congrArg B a1)
 by_cases a2:aT x=0
 case neg=>
  have e:bv t x=aT x:=by unfold bv;rw[Rw (by simp[a1]),Rx a2]
  rw[e];refine zJ Tryz.func157 Tryz.ntmps157 Tryz.results157 ?_;simp only[go_sem]
  (refine zW qw (z3 hgc (cZ x hz hp hd) (ic Tryz.func218)) X5 (z1 ?_)<;>(repeat with_reducible intro hc))
  all_goals try exact zk1
  exact zEe dfl
 have hxc:=(cZ x hz hp hd).re (congrArg I a2);obtain⟨o1,o2,_,_⟩:=dk a2
 have hcut:bv t x=if x.zxid≤t.zxid then 13 else if x.op=1 then(if x.session∈t.sessions then 8 else 0) else if ¬ x.session∈t.sessions then 12 else if x.op=3 then lH t x (aw t x.path).2
  else if x.op=4 then(if(aw t x.path).2=0∧0<(aw t x.path).1.stat.kids then 10 else(aw t x.path).2) else if x.op=5 then(if(aw t x.path).2=0∧¬ x.version=(aw t x.path).1.stat.version+1 then 9 else(aw t x.path).2) else 0:=by
  unfold bv;rw[Rw (by simp[a1]),Rw (fun h=>h a2)]
 have hoc:=isOpen_c t x.session h2;rw[hcut] at h0 ⊢;clear hcut
 by_cases a3:x.zxid≤t.zxid
 ·rw[Rx a3]
  refine zJ Tryz.func157 Tryz.ntmps157 Tryz.results157 ?_;simp only[go_sem]
  (refine zW qw (z3 hgc hxc (ic Tryz.func218)) @a3 (z1 ?_)<;>(repeat with_reducible intro hc))
  all_goals try exact zk1
  exact zEe dfl
 rw[Rw a3] at h0 ⊢
 by_cases b1:x.op=1
 ·rw[Rx b1] at h0 ⊢
  by_cases m:x.session∈t.sessions
  ·rw[Rx m]
   refine zJ Tryz.func157 Tryz.ntmps157 Tryz.results157 ?_;simp only[go_sem]
   (refine zW qw (z4 hgc hxc (hoc.re (congrArg B (decide_eq_true m))) (ic Tryz.func218)) (zx @a3 @b1) (z1 ?_)<;>(repeat with_reducible intro hc))
   all_goals try exact zk1
   exact zEe dfl
  ·rw[Rw m] at h0;exact absurd rfl h0
 rw[Rw b1] at h0 ⊢
 by_cases m:x.session∈t.sessions
 case neg=>
  rw[Rx m];refine zJ Tryz.func157 Tryz.ntmps157 Tryz.results157 ?_;simp only[go_sem]
  (refine zW qw (z4 hgc hxc (hoc.re (congrArg B (RM m))) (ic Tryz.func218)) (zx @a3 @b1) (z1 ?_)<;>(repeat with_reducible intro hc))
  all_goals try exact zk1
  exact zEe dfl
 rw[Rw (fun h=>h m)] at h0 ⊢;have hoc2:=hoc.re (congrArg B (decide_eq_true m));have hn1:=kT t.zxid t.nodes t.sessions x.path h1 hr;have hn2:=kT t.zxid t.nodes t.sessions (dirP x.path) h1 hr;have hsp:=bC x.path hp;have e1:(splitP x.path).1.1=dirP x.path:=rfl;have hpos (p:List UInt8) (q:p∈ar t):tu t p=(place (ar t) p:Nat)∧place (ar t) p<t.nodes.length∧aw t p=(nd t (place (ar t) p),0):=by have:=(ag hr q).1;rw[aK] at this;exact⟨nh q,this,by unfold aw;rw[Rx q]⟩
 by_cases b3:x.op=3
 ·rw[Rx b3] at h0 ⊢
  unfold lH at h0 ⊢
  by_cases q1:x.path∈ar t
  ·obtain⟨p1,p2,p3⟩:=hpos _ q1
   rw[Rx (fg.2 q1)];refine zJ Tryz.func157 Tryz.ntmps157 Tryz.results157 ?_;simp only[go_sem]
   (refine zW qw (zc hgc (zc hxc (zc hoc2 (z4 (hn1.re (congrArg I p1)) hn2 hsp (ic Tryz.func218))))) (zx @b3 @e1) (z1 ?_)<;>(repeat with_reducible intro hc))
   all_goals try exact zk1
   exact zEe dfl
  rw[Rw (fun h=>q1 (fg.1 h))] at h0 ⊢;have k1:=hn1.re (congrArg I (nodeI_no q1))
  by_cases q2:dirP x.path∈ar t
  case neg=>
   have g7:=lw q2;unfold dirP at g7;rw[g7,Rx (by decide)];refine zJ Tryz.func157 Tryz.ntmps157 Tryz.results157 ?_;simp only[go_sem]
   (refine zW qw (zc hgc (zc hxc (zc hoc2 (z4 k1 (hn2.re (congrArg I (nodeI_no q2))) hsp (ic Tryz.func218))))) (zx @b3 @e1) (z1 ?_)<;>(repeat with_reducible intro hc))
   all_goals try exact zk1
   exact zEe dfl
  obtain⟨p1,p2,p3⟩:=hpos _ q2;have k2:=hn2.re (congrArg I p1);have p3':aw t (splitP x.path).1.1=(nd t (place (ar t) (dirP x.path)),0):=p3;rw[p3'] at h0 ⊢;simp only[Td,S8] at h0 ⊢;unfold nd at h0 ⊢;generalize place (ar t) (dirP x.path)=q at p2 k2 h0 ⊢
  by_cases q3:(t.nodes.getD q default).stat.owner=0
  case neg=>
   rw[Rx q3];refine zJ Tryz.func157 Tryz.ntmps157 Tryz.results157 ?_;simp only[go_sem]
   (refine zW qw (zc hgc (zc hxc (zc hoc2 (z4 k1 k2 hsp (ic Tryz.func218))))) (zx @b3 @e1) (z1 ?_)<;>(repeat with_reducible intro hc))
   all_goals try exact zk1
   exact zEe dfl
  rw[Rw (fun h=>h q3)] at h0 ⊢
  by_cases q4:¬ x.owner=0∧¬ x.owner=x.session
  ·rw[Rx q4]
   refine zJ Tryz.func157 Tryz.ntmps157 Tryz.results157 ?_;simp only[go_sem]
   (refine zW qw (zc hgc (zc hxc (zc hoc2 (z4 k1 k2 hsp (ic Tryz.func218))))) (zx @b3 (zx @e1 @q3)) (z1 ?_)<;>(repeat with_reducible intro hc))
   all_goals try exact zk1
   exact zEe dfl
  rw[Rw q4] at h0 ⊢
  by_cases q5:400≤t.nodes.length
  ·rw[Rx q5]
   refine zJ Tryz.func157 Tryz.ntmps157 Tryz.results157 ?_;simp only[go_sem]
   (refine zW qw (zc hgc (zc hxc (zc hoc2 (z4 k1 k2 hsp (ic Tryz.func218))))) (zx @b3 (zx @e1 @q3)) (z1 ?_)<;>(repeat with_reducible intro hc))
   all_goals try exact zk1
   exact zEe dfl
  ·rw[Rw q5] at h0;exact absurd rfl h0
 rw[Rw b3] at h0 ⊢
 by_cases b4:x.op=4
 ·rw[Rx b4] at h0 ⊢
  by_cases q1:x.path∈ar t
  case neg=>
   have g7:=lw q1;rw[g7,Rw (by omega)];refine zJ Tryz.func157 Tryz.ntmps157 Tryz.results157 ?_;simp only[go_sem]
   (refine zW qw (zc hgc (zc hxc (zc hoc2 (z4 (hn1.re (congrArg I (nodeI_no q1))) hn2 hsp (ic Tryz.func218))))) (zx @b4 @e1) (z1 ?_)<;>(repeat with_reducible intro hc))
   all_goals try exact zk1
   exact zEe dfl
  obtain⟨p1,p2,p3⟩:=hpos _ q1;have k1:=hn1.re (congrArg I p1);rw[p3] at h0 ⊢;unfold nd at h0 ⊢;generalize place (ar t) x.path=q at p2 k1 h0 ⊢
  by_cases q2:0<(t.nodes.getD q default).stat.kids
  ·rw[Rx ⟨rfl,q2⟩]
   refine zJ Tryz.func157 Tryz.ntmps157 Tryz.results157 ?_;simp only[go_sem]
   (refine zW qw (zc hgc (zc hxc (zc hoc2 (z4 k1 hn2 hsp (ic Tryz.func218))))) (zx @b4 @e1) (z1 ?_)<;>(repeat with_reducible intro hc))
   all_goals try exact zk1
   exact zEe dfl
  ·rw[Rw (fun h=>q2 h.2)] at h0;exact absurd rfl h0
 rw[Rw b4] at h0 ⊢
 by_cases b5:x.op=5
 ·rw[Rx b5] at h0 ⊢
  by_cases q1:x.path∈ar t
  case neg=>
   have g7:=lw q1;rw[g7,Rw (by omega)];refine zJ Tryz.func157 Tryz.ntmps157 Tryz.results157 ?_;simp only[go_sem]
   (repeat' first
|(with_reducible refine AR.f ?_)
|refine bI (by decide) ?_
|(with_reducible refine AWP.cond rfl ?_ ?_<;>intro hc<;>(try simp only[hcs,RN,RY,RZ] at hc))
|(refine bL fun Kk hKk=>(cm df Tryz.func218 rfl (by kernel_rfl) (by simp[Tryz.ntmps218]) ?_);simp only[Tryz.ntmps218,Tryz.results218,Sx,gC,R1,RD,Nat.reduceAdd,Ry,RQ,go_sem])
|((first|((first|(with_reducible first|refine zR ?_|refine zQ ?_|refine zD ?_|refine zE ?_|refine zG ?_));intro K hK)|((first|refine zA hgc ?_ ?_ ?_ ?_ ?_|refine zA hxc ?_ ?_ ?_ ?_ ?_|refine zA hoc2 ?_ ?_ ?_ ?_ ?_|refine zA (hn1.re (congrArg I (nodeI_no q1))) ?_ ?_ ?_ ?_ ?_|refine zA hn2 ?_ ?_ ?_ ?_ ?_|refine zA hsp ?_ ?_ ?_ ?_ ?_);(focus exact rfl);(focus exact rfl);iterate 2 (focus((try simp(disch:=omega) only[go_sem,aa,b5,e1])<;>(try omega)<;>fail)))|((first|refine zN hoc2 rfl ?_ ?_|refine zN (hn1.re (congrArg I (nodeI_no q1))) rfl ?_ ?_|refine zX hgc rfl ?_ ?_|refine zX hxc rfl ?_ ?_|refine zX hn2 rfl ?_ ?_|refine zX hsp rfl ?_ ?_);(focus((try simp(disch:=omega) only[go_sem,aa,b5,e1])<;>(try omega)<;>fail)))|((first|refine zX hoc2 rfl ?_ ?_|refine zY hoc2 ?_ ?_);(focus((try simp(disch:=omega) only[go_sem,aa,b5,e1])<;>(try omega)<;>fail)))|((first|refine zX (hn1.re (congrArg I (nodeI_no q1))) rfl ?_ ?_|refine zY (hn1.re (congrArg I (nodeI_no q1))) ?_ ?_);(focus((try simp(disch:=omega) only[go_sem,aa,b5,e1])<;>(try omega)<;>fail)))|(refine aend_in (v:=?_) hKk (by first|exact .inl rfl|exact .inr rfl) ?_ ?_ ?_;rotate_left;(focus((try simp(disch:=omega) only[go_sem,aa,b5,e1])<;>(try omega)<;>fail));(focus((try simp(disch:=omega) only[go_sem,aa,b5,e1])<;>(first|done|exact rfl)));clear hKk Kk))<;>(try simp(disch:=omega) only[go_sem,aa,b5,e1])<;>(repeat' with_reducible refine Sg ?_ ?_)<;>(try(with_reducible refine hK _ ?_;clear hK K)))
|omega)
   all_goals try exact zk1
   exact zEe dfl
  obtain⟨p1,p2,p3⟩:=hpos _ q1;have k1:=hn1.re (congrArg I p1);have hB:=((bi.1 a1).2.2.2 _ p2).1;rw[p3] at h0 ⊢;unfold nd at h0 hB ⊢;generalize place (ar t) x.path=q at p2 k1 h0 hB ⊢;obtain⟨v1,v2,_⟩:=hB
  by_cases q2:x.version=(t.nodes.getD q default).stat.version+1
  case neg=>
   rw[Rx ⟨rfl,q2⟩];refine zJ Tryz.func157 Tryz.ntmps157 Tryz.results157 ?_;simp only[go_sem]
   (repeat' first
|(with_reducible refine AR.f ?_)
|refine bI (by decide) ?_
|(with_reducible refine AWP.cond rfl ?_ ?_<;>intro hc<;>(try simp only[hcs,RN,RY,RZ] at hc))
|(refine bL fun Kk hKk=>(cm df Tryz.func218 rfl (by kernel_rfl) (by simp[Tryz.ntmps218]) ?_);simp only[Tryz.ntmps218,Tryz.results218,Sx,gC,R1,RD,Nat.reduceAdd,Ry,RQ,go_sem])
|((first|((first|(with_reducible first|refine zR ?_|refine zQ ?_|refine zD ?_|refine zE ?_|refine zG ?_));intro K hK)|((first|refine zA hgc ?_ ?_ ?_ ?_ ?_|refine zA hxc ?_ ?_ ?_ ?_ ?_|refine zA hoc2 ?_ ?_ ?_ ?_ ?_|refine zA k1 ?_ ?_ ?_ ?_ ?_|refine zA hn2 ?_ ?_ ?_ ?_ ?_|refine zA hsp ?_ ?_ ?_ ?_ ?_);(focus exact rfl);(focus exact rfl);iterate 2 (focus((try simp(disch:=omega) only[go_sem,aa,b5,e1])<;>(try omega)<;>fail)))|((first|refine zN hoc2 rfl ?_ ?_|refine zN k1 rfl ?_ ?_|refine zX hgc rfl ?_ ?_|refine zX hxc rfl ?_ ?_|refine zX hn2 rfl ?_ ?_|refine zX hsp rfl ?_ ?_);(focus((try simp(disch:=omega) only[go_sem,aa,b5,e1])<;>(try omega)<;>fail)))|((first|refine zX hoc2 rfl ?_ ?_|refine zY hoc2 ?_ ?_);(focus((try simp(disch:=omega) only[go_sem,aa,b5,e1])<;>(try omega)<;>fail)))|((first|refine zX k1 rfl ?_ ?_|refine zY k1 ?_ ?_);(focus((try simp(disch:=omega) only[go_sem,aa,b5,e1])<;>(try omega)<;>fail)))|(refine aend_in (v:=?_) hKk (by first|exact .inl rfl|exact .inr rfl) ?_ ?_ ?_;rotate_left;(focus((try simp(disch:=omega) only[go_sem,aa,b5,e1])<;>(try omega)<;>fail));(focus((try simp(disch:=omega) only[go_sem,aa,b5,e1])<;>(first|done|exact rfl)));clear hKk Kk))<;>(try simp(disch:=omega) only[go_sem,aa,b5,e1])<;>(repeat' with_reducible refine Sg ?_ ?_)<;>(try(with_reducible refine hK _ ?_;clear hK K)))
|omega)
   all_goals try exact zk1
   exact zEe dfl
  ·rw[Rw (fun h=>h.2 q2)] at h0;exact absurd rfl h0
 rw[Rw b5] at h0;exact absurd rfl h0
theorem PN:Pls [XE [0,2,3] (.fork 1 (XE [4,5,6,7] .done) 4 (XE [1,5,6,7] .done)),XE [0,1,2,3,4,5,6,7,8,9,10,11,12,13,14,16,17] (.fork 15 (XE [18,19,20,21,22,23,24] .done) 18 (XE [19,20] (.fork 15 (XE [21,22,23,24] .done) 21 (XE [15,22,23,24] .done))))]:=pls _
attribute [go_sem] Tryz.ntmps220 Tryz.results220
theorem lj(z:Int)(ns:List XG)(ss:List Int)(key:List UInt8)(h:ns.length*88≤140737488351232)(hr:aE (pathsN ns))(hm:key∈pathsN ns):ab Tryz.prog [] 163 [.agg [I z,.d (.sl 9 (ns.map XG.row)),.d (.sl 1 (ss.map a8))],S key] (ret (I (place (pathsN ns) key:Nat))):=
 (pT ⟨z,ns,ss⟩ key h hr).re (congrArg I (nh hm))
theorem mJ(t:XI)(h:t.nodes.length*88≤140737488351232)(h2:t.sessions.length*8≤140737488351232):ab Tryz.prog [] 217 [t.av] (ew (.agg [I t.zxid,.osl 0 9 0 t.nodes.length,.osl 1 1 0 t.sessions.length]) [.rows 9 (t.nodes.map XG.row),.rows 1 (t.sessions.map a8)]):=by
 refine zJ Tryz.func217 Tryz.ntmps217 Tryz.results217 ?_;simp only[go_sem];refine zW qw zn X5 (z1 ?_)
 all_goals(refine zOp X5 ?_;simp(disch:=omega) only[go_sem,aa];refine WV ?_ (af.same ⟨rfl,rfl⟩);refine zV [2,3] rfl rfl rfl rfl ?_ ?_<;>simp(disch:=omega) only[go_sem,aa,UL,UM])
def eN(l:List XG)(key:List UInt8):List XG:=l.filter fun f=>decide (f.path≠key)
theorem iy(l:List XG)(key:List UInt8)(k:Nat)(h:k<l.length):eN (l.take (k+1)) key=if(l.getD k default).path≠key then eN (l.take k) key++[l.getD k default] else eN (l.take k) key:=by
 unfold eN;rw[aN l k h,Sn]
 by_cases e:(l.getD k default).path≠key
 ·rw[Rx e,SQ (by simpa using e)];rfl
 ·rw[Rw e,Sr (by simpa using e),SR,R5]
theorem ob{l:List XG}{key:List UInt8}(hr:aE (pathsN l))(h:key∈pathsN l):eN l key=l.eraseIdx (place (pathsN l) key):=by
 have hp:=ag hr h;generalize place (pathsN l) key=p at *
 have hpl:p<l.length:=by have:=hp.1;rwa[ao] at this
 have gd (j:Nat):(pathsN l).getD j []=(l.getD j default).path:=cV XG.path l j default
 have hne:∀ j,j<l.length→j≠p→(l.getD j default).path≠key:=fun j hj hjp e=>by
  have e1:(pathsN l).getD j []=key:=by rw[gd];exact e
  rcases Tz hjp with h1|h1
  ·have:=aV hr h1 (by rw[ao];exact hpl);rw[e1,hp.2] at this;exact Sk _ this
  ·have:=aV hr h1 (by rw[ao];exact hj);rw[e1,hp.2] at this;exact Sk _ this
 have hpk:(l.getD p default).path=key:=by have:=hp.2;rwa[gd] at this
 have hs:l=l.take p++l.getD p default::l.drop (p+1):=by rw[Ru,Rv hpl];simp
 have h1:(l.take p).filter (fun f=>decide (f.path≠key))=l.take p:=by
  rw[SI];intro f hf;obtain⟨j,hj,rfl⟩:=SF.1 hf
  have:=hne j (by omega) (by omega);rw[Ru,Rv (by omega)] at this;simpa using this
 have h2:(l.drop (p+1)).filter (fun f=>decide (f.path≠key))=l.drop (p+1):=by
  rw[SI];intro f hf;obtain⟨j,hj,rfl⟩:=S2.1 hf
  have:=hne (p+1+j) (by omega) (by omega);rw[Ru,Rv (by omega)] at this;simpa using this
 rw[eQ];unfold eN
 conv=>lhs;rw[hs]
 rw[Sn,Sr (by simp only[hpk];simp),h1,h2]
theorem ON(z:Int)(ns:List XG)(ss:List Int)(es:List XL)(x:ATxn)(p:List UInt8)(hl:ns.length≤400)(hss:ss.length*8≤140737488351232)(hes:es.length≤100000)(hp:p.length≤1048576)(hr:aE (pathsN ns))(hm:p∈pathsN ns)(hdir:dirP p∈pathsN ns)(hne:dirP p≠p) :
  ab Tryz.prog [.cells [I z,.osl 1 9 0 ns.length,.osl 2 1 0 ss.length],.rows 9 (ns.map XG.row),.rows 1 (ss.map a8),.cells [.osl 4 2 0 es.length],.rows 2 (es.map XL.row),.cells [.clo 220 [] [.ptr 0 0,.ptr 6 0,.ptr 3 0]],.cells [I x.zxid,I x.op,I x.session,S x.path,S x.data,I x.version,I x.owner]]
   221 [S p,.ptr 0 0,.ptr 3 0,.ptr 5 0]
   (ew (.tup []) [.cells [I z,.osl 7 9 0 (fx ns p x.zxid).length,.osl 2 1 0 ss.length],.dead,.rows 1 (ss.map a8),.cells [.osl 8 2 0 (es++eT p).length],.dead,.cells [.clo 220 [] [.ptr 0 0,.ptr 6 0,.ptr 3 0]],.cells [I x.zxid,I x.op,I x.session,S x.path,S x.data,I x.version,I x.owner],.rows 9 ((fx ns p x.zxid).map XG.row),.rows 2 ((es++eT p).map XL.row)]):=by
 refine zJ Tryz.func221 Tryz.ntmps221 Tryz.results221 ?_;simp only[go_sem];refine zW qw zn X5 (z1 ?_);refine WR (WT 5 9 rfl) ?_;simp only[go_sem];refine WQ (ι:=Nat) (fun k=>k≤ns.length) (fun k=>ns.length-k) [0,1,2,3,9,10] (fun k=>[(11,I k),(5,.osl 7 9 0 (eN (ns.take k) p).length)]) (fun k=>[.cells [I z,.osl 1 9 0 ns.length,.osl 2 1 0 ss.length],.rows 9 (ns.map XG.row),.rows 1 (ss.map a8),.cells [.osl 4 2 0 es.length],.rows 2 (es.map XL.row),.cells [.clo 220 [] [.ptr 0 0,.ptr 6 0,.ptr 3 0]],.cells [I x.zxid,I x.op,I x.session,S x.path,S x.data,I x.version,I x.owner],.rows 9 ((eN (ns.take k) p).map XG.row)]) 0 ?_ ?_ ?_
 ·omega
 ·simp only[go_sem,eN,SR];exact zSm X5
 intro k hk;have hol:(eN (ns.take k) p).length≤k:=RW (SK _ _) (S5 _ _);simp only[go_sem]
 by_cases hkk:k<ns.length
 ·(refine zW qw zn (zx @XG.rgetD (zx @XG.rsnoc @ax)) (z2 ?_ ?_)<;>(repeat with_reducible intro hc))
  ·refine⟨k+1,by omega,by omega,?_⟩
   rw[iy _ _ _ hkk,Rx hc];exact zFr [0,1,2,3,4,5,6,10] @List.length_append.{0}
  ·refine⟨k+1,by omega,by omega,?_⟩
   rw[iy _ _ _ hkk,Rw (by simpa using hc)];exact zFr [0,1,2,3,4,5,6,7] X5
 obtain rfl:k=ns.length:=by omega
 clear hol hk;rw[RU,ob hr hm];have hpf:=ag hr hm;have hdpl2:place (pathsN ns) p<ns.length:=by have:=hpf.1;rwa[ao] at this
 have hadd0:fx ns p x.zxid=kD (ns.eraseIdx (place (pathsN ns) p)) p (-1) x.zxid:=rfl;rw[hadd0];have hlm0:=cR _ _ hdpl2;have hr10:=gj hr (place (pathsN ns) p);have hm10:dirP p∈(pathsN ns).eraseIdx (place (pathsN ns) p):=gT hdir (by rw[hpf.2];exact hne.symm);rw[←ch] at hr10 hm10;generalize ns.eraseIdx (place (pathsN ns) p)=ns1 at hlm0 hr10 hm10 ⊢;have hq:=(ag hr10 hm10).1;rw[ao] at hq;have hadd:kD ns1 p (-1) x.zxid=ns1.set (place (pathsN ns1) (dirP p)) (kidF (-1) x.zxid (ns1.getD (place (pathsN ns1) (dirP p)) default)):=by unfold kD;rw[Rx hm10]
 rw[hadd];have hf2:=lj z ns1 ss (dirP p) (by omega) hr10 hm10;generalize hn2:ns1.set (place (pathsN ns1) (dirP p)) (kidF (-1) x.zxid (ns1.getD (place (pathsN ns1) (dirP p)) default))=ns2;have hl2:ns2.length=ns1.length:=by rw[←hn2,RQ]
 unfold kidF at hn2;have e1:(splitP p).1.1=dirP p:=rfl;have tk2:List.take ns1.length (ns2.map XG.row)=ns2.map XG.row:=Rz (by rw[RC];omega)
 (refine zW qw (z4 PN (ic Tryz.func220) (bC p hp) hf2) (zx @e1 (zx @hn2 (zx @hl2 (zx @tk2 (zx @XG.rgetD (zx @bt (zx @XG.rset (zx @az (zx @List.set_set.{0} (zx @XL.rsnoc (zx @ax @eE))))))))))) (z1 ?_)<;>(repeat with_reducible intro hc))
 all_goals(refine zOp X5 ?_;simp(disch:=omega) only[go_sem,aa,eT,Sd,Ss,Sp,hl2,Ry,RD,R1,SL];refine WV ?_ (af.same ⟨rfl,rfl⟩);refine zV [0,1,2,3,4,5,6,7,11] rfl rfl rfl rfl ?_ ?_<;>simp(disch:=omega) only[go_sem,aa,UL,UM,eT,Sd,Ss,Sp,hl2,Ry,RD,R1,SL])
theorem Ni(z:Int)(ns:List XG)(ss:List Int)(x:ATxn)(p:List UInt8)(hl:ns.length≤400)(hss:ss.length*8≤140737488351232)(hp:p.length≤1048576)(hr:aE (pathsN ns))(hm:p∈pathsN ns)(hdir:dirP p∈pathsN ns)(hne:dirP p≠p) :
  ab Tryz.prog [.cells [I z,.osl 1 9 0 ns.length,.osl 2 1 0 ss.length],.rows 9 (ns.map XG.row),.rows 1 (ss.map a8),.cells [.d (.sc (.slice none 0 0))],.cells [.clo 220 [] [.ptr 0 0,.ptr 5 0,.ptr 3 0]],.cells [I x.zxid,I x.op,I x.session,S x.path,S x.data,I x.version,I x.owner]]
   221 [S p,.ptr 0 0,.ptr 3 0,.ptr 4 0]
   (ew (.tup []) [.cells [I z,.osl 6 9 0 (fx ns p x.zxid).length,.osl 2 1 0 ss.length],.dead,.rows 1 (ss.map a8),.cells [.osl 7 2 0 (eT p).length],.cells [.clo 220 [] [.ptr 0 0,.ptr 5 0,.ptr 3 0]],.cells [I x.zxid,I x.op,I x.session,S x.path,S x.data,I x.version,I x.owner],.rows 9 ((fx ns p x.zxid).map XG.row),.rows 2 ((eT p).map XL.row)]):=by
 refine zJ Tryz.func221 Tryz.ntmps221 Tryz.results221 ?_;simp only[go_sem];refine zW qw zn X5 (z1 ?_);refine WR (W8 3 0 2 rfl rfl) ?_;simp only[go_sem];refine WR (WT 5 9 rfl) ?_;simp only[go_sem];refine WQ (ι:=Nat) (fun k=>k≤ns.length) (fun k=>ns.length-k) [0,1,2,3,9,10] (fun k=>[(11,I k),(5,.osl 7 9 0 (eN (ns.take k) p).length)]) (fun k=>[.cells [I z,.osl 1 9 0 ns.length,.osl 2 1 0 ss.length],.rows 9 (ns.map XG.row),.rows 1 (ss.map a8),.cells [.osl 6 2 0 0],.cells [.clo 220 [] [.ptr 0 0,.ptr 5 0,.ptr 3 0]],.cells [I x.zxid,I x.op,I x.session,S x.path,S x.data,I x.version,I x.owner],.rows 2 [],.rows 9 ((eN (ns.take k) p).map XG.row)]) 0 ?_ ?_ ?_
 ·omega
 ·simp only[go_sem,eN,SR];exact zSm X5
 intro k hk;have hol:(eN (ns.take k) p).length≤k:=RW (SK _ _) (S5 _ _);simp only[go_sem]
 by_cases hkk:k<ns.length
 ·(refine zW qw zn (zx @XG.rgetD (zx @XG.rsnoc @ax)) (z2 ?_ ?_)<;>(repeat with_reducible intro hc))
  ·refine⟨k+1,by omega,by omega,?_⟩
   rw[iy _ _ _ hkk,Rx hc];exact zFr [0,1,2,3,4,5,6,10] @List.length_append.{0}
  ·refine⟨k+1,by omega,by omega,?_⟩
   rw[iy _ _ _ hkk,Rw (by simpa using hc)];exact zFr [0,1,2,3,4,5,6,7] X5
 obtain rfl:k=ns.length:=by omega
 clear hol hk;rw[RU,ob hr hm];have hpf:=ag hr hm;have hdpl2:place (pathsN ns) p<ns.length:=by have:=hpf.1;rwa[ao] at this
 have hadd0:fx ns p x.zxid=kD (ns.eraseIdx (place (pathsN ns) p)) p (-1) x.zxid:=rfl;rw[hadd0];have hlm0:=cR _ _ hdpl2;have hr10:=gj hr (place (pathsN ns) p);have hm10:dirP p∈(pathsN ns).eraseIdx (place (pathsN ns) p):=gT hdir (by rw[hpf.2];exact hne.symm);rw[←ch] at hr10 hm10;generalize ns.eraseIdx (place (pathsN ns) p)=ns1 at hlm0 hr10 hm10 ⊢;have hq:=(ag hr10 hm10).1;rw[ao] at hq;have hadd:kD ns1 p (-1) x.zxid=ns1.set (place (pathsN ns1) (dirP p)) (kidF (-1) x.zxid (ns1.getD (place (pathsN ns1) (dirP p)) default)):=by unfold kD;rw[Rx hm10]
 rw[hadd];have hf2:=lj z ns1 ss (dirP p) (by omega) hr10 hm10;generalize hn2:ns1.set (place (pathsN ns1) (dirP p)) (kidF (-1) x.zxid (ns1.getD (place (pathsN ns1) (dirP p)) default))=ns2;have hl2:ns2.length=ns1.length:=by rw[←hn2,RQ]
 unfold kidF at hn2;have e1:(splitP p).1.1=dirP p:=rfl;have hev1:([[.int .i64 2,.str p]]:List (List DV))++[[.int .i64 4,.str (dirP p)]]=(eT p).map XL.row:=rfl;have hev2:([.int .i64 2,.str p]:List DV)::[[.int .i64 4,.str (dirP p)]]=(eT p).map XL.row:=rfl;have tk2:List.take ns1.length (ns2.map XG.row)=ns2.map XG.row:=Rz (by rw[RC];omega)
 (refine zW qw (z4 PN (ic Tryz.func220) (bC p hp) hf2) (zx @e1 (zx @hn2 (zx @hl2 (zx @tk2 (zx @XG.rgetD (zx @bt (zx @XG.rset (zx @az (zx @List.set_set.{0} (zx @hev1 (zx @hev2 @ax))))))))))) (z1 ?_)<;>(repeat with_reducible intro hc))
 all_goals(refine zOp X5 ?_;simp(disch:=omega) only[go_sem,aa,hl2,eT,RD,R1];refine WV ?_ (af.same ⟨rfl,rfl⟩);refine zV [0,1,2,3,4,5,7,11] rfl rfl rfl rfl ?_ ?_<;>simp(disch:=omega) only[go_sem,aa,UL,UM,hl2,eT,RD,R1])
end Go.Proofs.YtjcooccnfkfjhaaGreatDoor
