/- What the law leans on. No condition. -/
import Derived.Laws.BitsAllLaws
import Derived.Test.YtjcooccnfkfjhaaGreatDoorPlyK3
namespace Go.Proofs.YtjcooccnfkfjhaaGreatDoor
set_option maxHeartbeats 8000000
set_option linter.unusedVariables false
set_option linter.unusedSimpArgs false
open Go Go.RowKit Tryz
set_option maxRecDepth 100000
def rG(c:Nat):Nat:=(c/2) ^^^ (if c%2=1 then 3988292384 else 0)
def eW:Nat→Nat→Nat
 |0,c=>c
 |k+1,c=>rG (eW k c)
def wB(c:Nat)(b:UInt8):Nat:=eW 8 (c ^^^ b.toNat)
def gF(s:List UInt8):Nat:=s.foldl wB 4294967295
def ma(s:List UInt8):Nat:=4294967295-gF s
theorem Lx{c:Nat}(h:c<4294967296):rG c<4294967296:=by unfold rG;exact UP (n:=32) (by omega) (by split<;>decide)
theorem stepsN_lt{c:Nat}(h:c<4294967296):∀ k,eW k c<4294967296
 |0=>h
 |k+1=>Lx (stepsN_lt h k)
theorem Lu{c:Nat}(b:UInt8)(h:c<4294967296):wB c b<4294967296:=
 stepsN_lt (UP (n:=32) h (WY b.toNat_lt (by decide))) 8
theorem xi(s:List UInt8)(k:Nat)(h:k<s.length):gF (s.take (k+1))=wB (gF (s.take k)) (s.getD k 0):=by
 unfold gF
 have:s.take (k+1)=s.take k++[s.getD k 0]:=aN s k h;rw[this,Tz];rfl
theorem EP(s:List UInt8):gF s<4294967296:=by
 unfold gF
 have:∀(l:List UInt8) (c:Nat),c<4294967296→l.foldl wB c<4294967296:=by
  intro l
  induction l with
  |nil=>intro c h;exact h
  |cons b l ih=>intro c h;exact ih _ (Lu b h)
 exact this s _ (by decide)
theorem and1(c:Nat)(h:c<4294967296):bits .and .u32 (c:Int) 1=((c%2:Nat):Int):=by have:=u32_and_nat c 1 h (by decide);rw[VW] at this;exact this
theorem Q8(c:Nat):(c:Int)/2=((c/2:Nat):Int):=by omega
theorem xorp(c:Nat)(h:c<4294967296):bits .xor .u32 (c:Int) 3988292384=((c ^^^ 3988292384:Nat):Int):=W6 c _ h (by decide)
theorem ED(b:UInt8):b.toNat<4294967296:=WY b.toNat_lt (by decide)
theorem IT{c:Nat}(h:c%2=1):rG c=c/2 ^^^ 3988292384:=by unfold rG;rw[RJ h]
theorem Hm{c:Nat}(h:¬ c%2=1):rG c=c/2:=by unfold rG;rw[RI h,Wt]
theorem En:gF []=4294967295:=rfl
theorem CM(b:UInt8):IntKind.u32.wrap (b.toNat:Int)=(b.toNat:Int):=by have:=b.toNat_lt;rw[IntKind.wrap_u32'];omega
theorem Rh(c:Nat)(h:c<4294967296):bits .xor .u32 (if IntKind.u32.signed=true then -1 else IntKind.u32.max) (c:Int)=((4294967295-c:Nat):Int):=by
 have e:(if IntKind.u32.signed=true then(-1:Int) else IntKind.u32.max)=((4294967295:Nat):Int):=by decide
 rw[e,W6 _ _ (by decide) h];congr 1
 have:4294967295-c=2^32-(c+1):=by omega
 apply Nat.eq_of_testBit_eq;intro i;rw[Nat.testBit_xor,this,VH h,show 4294967295=2^32-1 from rfl,Nat.testBit_two_pow_sub_one]
 by_cases hi:i<32
 ·simp[hi]
 ·have:c.testBit i=false:=Nat.testBit_lt_two_pow (SL h (U4 (by decide) (by omega):2^32≤2^i))
  simp[hi,this]
theorem OZ(n:Nat):(((n:Nat):Int)=1)=(n=1):=by rw[eq_iff_iff];omega
theorem Oj(s:List UInt8)(h:okS s):ab prog [] 204 [S s] (ret (I (ma s))):=by
 unfold okS at h;refine zJ func204 ntmps204 results204 ?_;simp only[go_sem];refine zW qw zn Yj (z1 ?_);refine Xd (ι:=Nat) (fun k=>k≤s.length) (fun k=>s.length-k) [0] (fun k=>[(3,.d (.int .u32 (gF (s.take k)))),(4,I k)]) 0 ?_ (by simp(disch:=omega) only[go_sem,aa,En,Vf]) ?_
 ·omega
 intro k hk;have hc0:=EP (s.take k);have hb:=ED (s.getD k 0);have hx:gF (s.take k) ^^^ (s.getD k 0).toNat<4294967296:=UP (n:=32) hc0 hb;simp only[go_sem]
 (refine zW qw zn (zx @W6 @CM) (z2 ?_ ?_)<;>(repeat with_reducible intro hc))
 ·refine Xd (ι:=Nat) (fun j=>j≤8) (fun j=>8-j) [0,4] (fun j=>[(3,.d (.int .u32 (eW j (gF (s.take k) ^^^ (s.getD k 0).toNat)))),(18,I j)]) 0 ?_ (by simp(disch:=omega) only[go_sem,aa,eW]) ?_
  ·omega
  intro j hj;have hs:=stepsN_lt hx j;have hs2:eW j (gF (s.take k) ^^^ (s.getD k 0).toNat)/2<4294967296:=by omega
  simp only[go_sem]
  (refine zW qw zn (zx @and1 (zx @Q8 (zx @xorp @OZ))) (z3 ?_ ?_ ?_)<;>(repeat with_reducible intro hc))
  ·refine Zq (j+1) ?_
   (refine ax.same ?_;simp(disch:=omega) only[go_sem,aa,Ss,eW,IT hc])
  ·refine Zq (j+1) ?_
   (refine ax.same ?_;simp(disch:=omega) only[go_sem,aa,Ss,eW,Hm hc])
  ·have e0:j=8:=by omega
   subst e0;refine Zq (k+1) ?_;exact zSm (zx @xi @wB.eq_1)
 ·have e0:k=s.length:=by omega
  subst e0;rw[R7] at *
  exact zEe (zx @Rh @ma.eq_1)
def cl(l:List Nat):List AV:=l.map fun n:Nat=>AV.d (.int .i64 (n:Int))
theorem zM(l:List Nat):(cl l).length=l.length:=by simp[cl]
theorem C6(l:List Nat)(k:Nat)(h:k<l.length):(cl l).getD k .any=.d (.int .i64 (l.getD k 0:Nat)):=by unfold cl;rw[RG,RS,RG,RH h];rfl
theorem DD(l:List Nat)(k v:Nat):(cl l).set k (.d (.int .i64 (v:Int)))=cl (l.set k v):=by unfold cl;rw[UL]
theorem Nc(l:List Nat)(k:Nat):(cl l).set k (.d (.int .i64 1))=cl (l.set k 1):=DD l k 1
theorem Fm(l:List Nat)(k:Nat):(cl l).set k (.d (.int .i64 0))=cl (l.set k 0):=DD l k 0
def reg0(k:Nat):List Nat:=List.replicate k 1++List.replicate (32-k) 0
theorem Bw(k:Nat)(h:k≤32):(reg0 k).length=32:=by simp[reg0];omega
theorem Ik(k:Nat)(h:k<32):(reg0 k).set k 1=reg0 (k+1):=by unfold reg0;rw[TZ _ _ (by simp),TJ,Ty,show 32-k=(32-(k+1))+1 from by omega,VK,List.set_cons_zero,VA (n:=k),Sq];rfl
theorem HU:cl (reg0 0)=List.replicate 32 (.d (.int .i64 0)):=rfl
def bitsOf(c:Nat):List Nat:=(List.range 32).map fun k=>c/2^k%2
theorem jk(c:Nat):(bitsOf c).length=32:=by simp[bitsOf]
theorem vA(c k:Nat)(h:k<32):(bitsOf c).getD k 0=c/2^k%2:=by unfold bitsOf;rw[RG,RS,Ub h];rfl
theorem G7:reg0 32=bitsOf 4294967295:=by decide
def pR(c b k:Nat):Nat:=eW k (c ^^^ b) ^^^ (b/2^k)
theorem Hl(c b:Nat):pR c b 0=c:=by unfold pR;rw[eW,Vn,VC,Wa,Nat.xor_self,Wt]
theorem Iv(c:Nat)(b:UInt8):pR c b.toNat 8=wB c b:=by have:b.toNat/2^8=0:=Vu b.toNat_lt;unfold pR;rw[this,Wt];rfl
theorem NQ{c b:Nat}(hc:c<4294967296)(hb:b<4294967296)(k:Nat):pR c b k<4294967296:=
 UP (n:=32) (stepsN_lt (UP (n:=32) hc hb) k) (VX (Ve _ _) hb)
theorem dA(n:Nat):n%2=0∨n%2=1:=by omega
theorem AY{a b:Nat}(ha:a=0∨a=1)(hb:b=0∨b=1):bits .xor .i64 (a:Int) (b:Int)=((a ^^^ b:Nat):Int):=by rcases ha with rfl|rfl<;>rcases hb with rfl|rfl<;>decide
theorem Aq(a b:Nat):(a ^^^ b)%2=(a%2) ^^^ (b%2):=by have:=@Nat.xor_mod_two_pow a b 1;simpa using this
theorem Pz(c k:Nat)(b:UInt8):bits .xor .i64 ((pR c b.toNat k/1%2:Nat):Int) (IntKind.i64.wrap (bits .and .u8 ((b.toNat:Int)/2^k) 1))=((eW k (c ^^^ b.toNat)%2:Nat):Int):=by
 have e0:(b.toNat:Int)/2^k=((b.toNat/2^k:Nat):Int):=by rw[Wj,Int.natCast_pow];rfl
 have e1:=u8_and_nat (b.toNat/2^k) 1 (VX (Ve _ _) b.toNat_lt) (by decide);rw[VW] at e1;rw[e0,show(1:Int)=((1:Nat):Int) from rfl,e1,aa _ (by omega) (by omega),VC,AY (dA _) (dA _)];congr 1;unfold pR;rw[Aq,Wa,Nat.xor_self,Wt]
theorem In(c:Nat)(h:c<4294967296):((List.take (min 32 31) (List.drop 1 (cl (bitsOf c)))++List.drop (min 32 31) (cl (bitsOf c))).set 31 (.d (.int .i64 0)))=cl (bitsOf (c/2)):=by
 have e:(List.take 31 (List.drop 1 (bitsOf c))++List.drop 31 (bitsOf c)).set 31 0=bitsOf (c/2):=by
  refine UH (by simp[bitsOf]) fun j h1 h2=>?_
  rw[Wk];rw[jk] at h2;split
  ·rename_i e;subst e;simp[bitsOf];omega
  ·rw[List.getElem_append_left (by simp[bitsOf];omega),UY,List.getElem_drop]
   simp only[bitsOf,Uj,Uo];rw[TX,Nat.pow_add,Nat.pow_one]
 rw[←e,←Fm];unfold cl;rw[Sn,Vb,US,US];rfl
def xorR(c low j:Nat):List Nat:=(List.range 32).map fun t=>if t<j then(c/2^t%2) ^^^ (low*(3988292384/2^t%2)) else c/2^t%2
theorem uH(c low j:Nat):(xorR c low j).length=32:=by simp[xorR]
theorem G5(c low:Nat):xorR c low 0=bitsOf c:=by simp[xorR,bitsOf]
theorem J4(c low j:Nat)(h:j<32):(xorR c low j).getD j 0=c/2^j%2:=by unfold xorR;rw[RG,RS,Ub h];simp
theorem KV(c low j:Nat)(h:j<32):(xorR c low j).set j ((c/2^j%2) ^^^ (low*(3988292384/2^j%2)))=xorR c low (j+1):=by
 refine UH (by simp[xorR]) fun t h1 h2=>?_
 rw[Wk];split
 ·rename_i e;subst e;simp[xorR]
 ·simp only[xorR,Uj,Uo]
  by_cases ht:t<j
  ·rw[RJ ht,RJ (by omega)]
  ·rw[RI ht,RI (by omega)]
theorem MT(a b t:Nat):(a ^^^ b)/2^t%2=(a/2^t%2) ^^^ (b/2^t%2):=by rw[←Aq,←Ut,←Ut,←Ut,VY]
theorem Hq(c p:Nat):xorR c (p%2) 32=bitsOf (c ^^^ (if p%2=1 then 3988292384 else 0)):=by
 refine UH (by simp[xorR,bitsOf]) fun t h1 h2=>?_
 rw[uH] at h1;simp only[xorR,bitsOf,Uj,Uo];rw[RJ h1,MT];rcases dA p with e|e<;>rw[e]<;>simp
theorem Hi(c b k:Nat):pR c b k/2 ^^^ (if eW k (c ^^^ b)%2=1 then 3988292384 else 0)=pR c b (k+1):=by
 unfold pR;rw[eW,rG];have e:∀ a b:Nat,(a ^^^ b)/2=(a/2) ^^^ (b/2):=fun a b=>by have:=@VY 1 a b;simpa[Ut] using this
 rw[e,TX,←T4];generalize eW k (c ^^^ b)/2=x;generalize b/2^(k+1)=y;generalize (if eW k (c ^^^ b)%2=1 then 3988292384 else 0)=z;rw[Wa,Wa,Nat.xor_comm y z]
theorem xO(n:Int)(h1:0≤n)(h2:n≤18446744073709551615):IntKind.u64.wrap n=n:=by simp[IntKind.wrap,IntKind.bits,IntKind.signed];omega
theorem FP(n:Int)(h0:0≤n)(h:n<2^62):IntKind.i64.wrap n=n:=aa n (by omega) (by omega)
theorem LG(j:Nat):bits .and .i64 (3988292384/2^j) 1=((3988292384/2^j%2:Nat):Int):=by
 have e0:(3988292384:Int)/2^j=((3988292384/2^j:Nat):Int):=by rw[Wj,Int.natCast_pow];rfl
 have:=(bits_nat .i64 62 (by decide) FP (3988292384/2^j) 1 (VX (Ve _ _) (by decide)) (by decide)).1;rw[VW] at this;rw[e0];exact this
theorem N5(p q:Nat):IntKind.i64.wrap (((p%2:Nat):Int)*((q%2:Nat):Int))=((p%2*(q%2):Nat):Int):=by rcases dA p with e|e<;>rcases dA q with e2|e2<;>rw[e,e2]<;>decide
theorem Mp(a p q:Nat):bits .xor .i64 ((a%2:Nat):Int) ((p%2*(q%2):Nat):Int)=((a%2 ^^^ (p%2*(q%2)):Nat):Int):=
 AY (dA _) (by rcases dA p with e|e<;>rcases dA q with e2|e2<;>rw[e,e2]<;>simp)
theorem I7(c j:Nat)(h:c<4294967296)(hj:j<32):(4294967295-c)/2^j=2*((4294967295-c)/2^(j+1))+1-c/2^j%2:=by
 have e1:(4294967295-c)/2^j%2=1-c/2^j%2:=by have:=VH (n:=32) h j;rw[show 2^32-(c+1)=4294967295-c from by omega] at this;rw[Vo,Vo,decide_eq_true hj,Ui] at this;rcases dA (c/2^j) with e|e<;>rcases dA ((4294967295-c)/2^j) with e2|e2<;>rw[e,e2] at this<;>simp at this<;>omega
 have e2:(4294967295-c)/2^(j+1)=(4294967295-c)/2^j/2:=by rw[TX,T4]
 rw[e2]
 have:=dA (c/2^j);omega
theorem xe(s:List UInt8)(h:okS s):ab prog [] 253 [S s] (ret (I (ma s))):=by
 unfold okS at h;refine zJ func253 ntmps253 results253 ?_;simp only[go_sem];refine zW qw zn Yj (z1 ?_);refine W9 (ι:=Nat) (fun k=>k≤32) (fun k=>32-k) [0,3] (fun k=>[(12,I k)]) (fun k=>[.cells (cl (reg0 k))]) 0 ?_ ?_ ?_
 ·omega
 ·rw[HU];simp only[go_sem];exact zSm Yj
 intro k hk;have hl:=Bw k hk;simp only[go_sem]
 (refine zW qw zn (zx @zM (zx @Bw (zx @TP (zx @Nc @Ik)))) (z2 ?_ ?_)<;>(repeat with_reducible intro hc))
 ·refine Zq (k+1) ?_
  exact zSm Yj
 ·have e0:k=32:=by omega
  subst e0;rw[G7];refine W9 (ι:=Nat) (fun i=>i≤s.length) (fun i=>s.length-i) [3,19,20] (fun i=>[(21,I i)]) (fun i=>[.cells (cl (bitsOf (gF (s.take i)))),.bytes s]) 0 ?_ ?_ ?_
  ·omega
  ·simp only[go_sem,En];exact zSm Yj
  intro i hi;have hc0:=EP (s.take i);simp only[go_sem]
  (refine zW qw zn @u8g (z2 ?_ ?_)<;>(repeat with_reducible intro hc))
  ·refine W9 (ι:=Nat) (fun k=>k≤8) (fun k=>8-k) [3,6,19,20,21] (fun k=>[(7,.d (.int .u64 k))]) (fun k=>[.cells (cl (bitsOf (pR (gF (s.take i)) (s.getD i 0).toNat k))),.bytes s]) 0 ?_ ?_ ?_
   ·omega
   ·simp only[go_sem,Hl];exact zSm Yj
   intro k hk;have hr:=NQ hc0 (ED (s.getD i 0)) k;have hbl:=jk (pR (gF (s.take i)) (s.getD i 0).toNat k);simp only[go_sem]
   (refine zW qw zn (zx @zM (zx @jk (zx @C6 (zx @vA @Fm)))) (z2 ?_ ?_)<;>(repeat with_reducible intro hc))
   ·rw[In _ hr,Pz]
    refine W9 (ι:=Nat) (fun j=>j≤32) (fun j=>32-j) [3,6,7,8,19,20,21] (fun j=>[(41,I j)]) (fun j=>[.cells (cl (xorR (pR (gF (s.take i)) (s.getD i 0).toNat k/2) (eW k (gF (s.take i) ^^^ (s.getD i 0).toNat)%2) j)),.bytes s]) 0 ?_ ?_ ?_
    ·omega
    ·simp only[go_sem,G5];exact zSm Yj
    intro j hj;have hxl:=uH (pR (gF (s.take i)) (s.getD i 0).toNat k/2) (eW k (gF (s.take i) ^^^ (s.getD i 0).toNat)%2) j;simp only[go_sem]
    (refine zW qw zn (zx @TP (zx @zM (zx @uH (zx @C6 (zx @J4 (zx @xO (zx @LG (zx @N5 (zx @Mp (zx @DD @KV)))))))))) (z2 ?_ ?_)<;>(repeat with_reducible intro hc))
    ·refine Zq (j+1) ?_
     exact zSm Yj
    ·have e0:j=32:=by omega
     subst e0;refine Zq (k+1) ?_;rw[Hq,Hi];exact zSm @xO
   ·have e0:k=8:=by omega
    subst e0;refine Zq (i+1) ?_;rw[Iv,←xi _ _ (by omega)];exact zSm Yj
  ·have e0:i=s.length:=by omega
   subst e0;rw[R7] at *
   have hbl:=jk (gF s);have hM:∀ j,(4294967295-gF s)/2^j≤4294967295:=fun j=>R8 (Ve _ _) (Nat.sub_le _ _)
   have hz:(4294967295-gF s)/4294967296=0:=Vu (by omega);refine W9 (ι:=Nat) (fun j=>j≤32) (fun j=>j) [3] (fun j=>[(10,I ((4294967295-gF s)/2^j:Nat)),(11,I ((j:Int)-1))]) (fun j=>[.cells (cl (bitsOf (gF s))),.bytes s]) 32 ?_ ?_ ?_
   ·omega
   ·simp only[go_sem];exact zSm @hz
   intro j hj;have hMj:=hM j;have hb2:=dA (gF s/2^(j-1));simp only[go_sem]
   (refine zW qw zn (zx @TP (zx @zM (zx @jk (zx @fX (zx @C6 @vA))))) (z2 ?_ ?_)<;>(repeat with_reducible intro hc))
   ·refine Zq (j-1) ?_
    have e1:=I7 (gF s) (j-1) (by omega) (by omega);rw[show j-1+1=j from by omega] at e1;have e2:2*(((4294967295-gF s)/2^j:Nat):Int)+1-((gF s/2^(j-1)%2:Nat):Int)=(((4294967295-gF s)/2^(j-1):Nat):Int):=by omega
    have e3:(j:Int)-1=((j-1:Nat):Int):=by omega
    simp only[e3];exact zSm @e2
   ·have e0:j=0:=by omega
    subst e0;exact zEe (zx @ma.eq_1 (zx @Vn @VC))
theorem PO(s:List UInt8):ma s≤4294967295:=Nat.sub_le _ _
structure Cur where
 t:List UInt8
 s:List UInt8
 bad:Bool
def cH(s:List UInt8)(b:Bool)(n:Nat):Cur:=if b=true∨s.length<n then⟨[],s,true⟩ else⟨s.take n,s.drop n,false⟩
theorem BS{s:List UInt8}{b:Bool}{n:Nat}(h:b=true∨s.length<n):cH s b n=⟨[],s,true⟩:=RJ h
theorem eM{s:List UInt8}{n:Nat}(h:n≤s.length):cH s false n=⟨s.take n,s.drop n,false⟩:=RI (by simp;omega)
theorem u9(s:List UInt8)(b:Bool)(n:Nat)(hs:okS s)(ni:Int)(hi:ni=n):ab prog [.cells [S s,B b]] 202 [.ptr 0 0,I ni] (dr (S (cH s b n).t) [.cells [S (cH s b n).s,B (cH s b n).bad]]):=by
 subst hi;unfold okS at hs
 by_cases h:b=true∨s.length<n
 ·rw[BS h]
  refine zJ func202 ntmps202 results202 ?_;simp only[go_sem]
  (refine zW qw zn Yj (z2 ?_ ?_)<;>(repeat with_reducible intro hc))
  ·(refine zOp Yj ?_;simp(disch:=omega) only[go_sem,aa];refine Xc ?_ (af.same ⟨rfl,rfl⟩);refine zV [0] rfl rfl rfl rfl ?_ ?_<;>simp(disch:=omega) only[go_sem,aa,UC,UD])
  exfalso;rcases h with h|h
  ·rw[h] at hc;exact absurd hc.1 (by decide)
  ·omega
 ·rw[show b=false from by cases b<;>simp_all] at *
  rw[eM (by omega)];refine zJ func202 ntmps202 results202 ?_;simp only[go_sem];have e:List.take (s.length-n) (List.drop n s)=List.drop n s:=RK (by rw[RZ];omega)
  (refine zW qw zn Yj (z1 ?_)<;>(repeat with_reducible intro hc))
  (refine zOp Yj ?_;simp(disch:=omega) only[go_sem,aa,Sg,e];refine Xc ?_ (af.same ⟨rfl,rfl⟩);refine zV [0] rfl rfl rfl rfl ?_ ?_<;>simp(disch:=omega) only[go_sem,aa,UC,UD,Sg,e])
def kL(l:List UInt8):Int:=l.foldl (fun v x=>IntKind.i64.wrap (v*256+x.toNat)) 0
theorem eG(n:Int):IntKind.i64.wrap n=(n+9223372036854775808)%18446744073709551616-9223372036854775808:=by simp[IntKind.wrap,IntKind.bits,IntKind.signed];omega
theorem Fl(n:Int)(c:UInt8):bits .or .i64 (IntKind.i64.wrap (n*256)) (c.toNat:Int)=IntKind.i64.wrap (n*256+c.toNat):=by
 have hc:=c.toNat_lt;show IntKind.i64.wrap ((BitVec.ofInt 64 (IntKind.i64.wrap (n*256)) ||| BitVec.ofInt 64 (c.toNat:Int)).toNat:Int)=_;have e1:(BitVec.ofInt 64 (IntKind.i64.wrap (n*256))).toNat=((n*256)%18446744073709551616).toNat:=by rw[BitVec.toNat_ofInt,eG];congr 1;omega
 rw[BitVec.toNat_or,ofInt_u64 c.toNat (by omega),e1,nat_join 8 _ _ (by omega) (by omega),eG,eG];omega
theorem nP(t:List UInt8)(k:Nat)(h:k<t.length):kL (t.take (k+1))=IntKind.i64.wrap (kL (t.take k)*256+(t.getD k 0).toNat):=by
 unfold kL
 have:t.take (k+1)=t.take k++[t.getD k 0]:=aN t k h;rw[this,Tz];rfl
theorem dU(b:UInt8):IntKind.i64.wrap (b.toNat:Int)=(b.toNat:Int):=by have:=b.toNat_lt;rw[eG];omega
theorem B9(s:List UInt8)(b:Bool)(n:Nat)(hs:okS s)(ni:Int)(hi:ni=n)(hn:n≤8):ab prog [.cells [S s,B b]] 203 [.ptr 0 0,I ni] (dr (I (kL (cH s b n).t)) [.cells [S (cH s b n).s,B (cH s b n).bad]]):=by
 have hl:(cH s b n).t.length≤8:=by unfold cH;split<;>simp;omega
 generalize hk:cH s b n=k at hl;refine zJ func203 ntmps203 results203 ?_;simp only[go_sem];have ct:ab prog [.cells [S s,B b]] 202 [.ptr 0 0,I ni] (dr (S k.t) [.cells [S k.s,B k.bad]]):=hk▸u9 s b n hs ni hi
 (refine zW qw (z1 (ac [0] ct)) Yj (z1 ?_)<;>(repeat with_reducible intro hc))
 refine W9 (ι:=Nat) (fun j=>j≤k.t.length) (fun j=>k.t.length-j) [11,12] (fun j=>[(5,I (kL (k.t.take j))),(13,I j)]) (fun j=>[.cells [S k.s,B k.bad],.bytes k.t]) 0 ?_ ?_ ?_
 ·omega
 ·simp only[go_sem,kL,WK];exact zSm Yj
 intro j hj;simp only[go_sem]
 (refine zW qw zn (zx @u8g (zx @Fl @dU)) (z2 ?_ ?_)<;>(repeat with_reducible intro hc))
 ·refine Zq (j+1) ?_
  rw[nP _ _ (by assumption)];exact zSm (zx @Fl (zx @dU @u8g))
 rw[show j=k.t.length from by omega,R7]
 (refine zOp Yj ?_;simp(disch:=omega) only[go_sem,aa];refine Xc ?_ (af.same ⟨rfl,rfl⟩);refine zV [0] rfl rfl rfl rfl ?_ ?_<;>simp(disch:=omega) only[go_sem,aa,UC,UD])
theorem nX(n:Int)(b:UInt8):IntKind.i64.wrap (IntKind.i64.wrap (n*256)+(b.toNat:Int))=IntKind.i64.wrap (n*256+b.toNat):=by rw[eG,eG,eG];omega
theorem vf(s:List UInt8)(hs:okS s):ab prog [] 252 [S s] (ret (I (kL s))):=by
 unfold okS at hs;refine zJ func252 ntmps252 results252 ?_;simp only[go_sem]
 (refine zW qw zn Yj (z1 ?_)<;>(repeat with_reducible intro hc))
 refine W9 (ι:=Nat) (fun j=>j≤s.length) (fun j=>s.length-j) [7,8] (fun j=>[(3,I (kL (s.take j))),(9,I j)]) (fun j=>[.bytes s]) 0 ?_ ?_ ?_
 ·omega
 ·simp only[go_sem,kL,WK];exact zSm Yj
 intro j hj;simp only[go_sem]
 (refine zW qw zn (zx @u8g (zx @dU @nX)) (z2 ?_ ?_)<;>(repeat with_reducible intro hc))
 ·refine Zq (j+1) ?_
  rw[nP _ _ (by assumption)];exact zSm (zx @dU (zx @u8g @nX))
 rw[show j=s.length from by omega,R7];exact zEe Yj
def numN(l:List UInt8):Nat:=l.foldl (fun v x=>v*256+x.toNat) 0
theorem ya(t:List UInt8)(k:Nat)(h:k<t.length):numN (t.take (k+1))=numN (t.take k)*256+(t.getD k 0).toNat:=by
 unfold numN
 have:t.take (k+1)=t.take k++[t.getD k 0]:=aN t k h;rw[this,Tz];rfl
theorem rA(t:List UInt8):∀ k,k≤t.length→k≤7→numN (t.take k)<256^k∧kL (t.take k)=((numN (t.take k):Nat):Int)
 |0,_,_=>⟨by simp[numN],rfl⟩
 | k+1,h,h7=>by
   obtain⟨h1,h2⟩:=rA t k (by omega) (by omega);have hb:=(t.getD k 0).toNat_lt;have hp:256^k≤256^6:=U4 (by decide) (by omega);have hq:256^(k+1)=256^k*256:=T4 ..;rw[ya t k (by omega),nP t k (by omega),h2,eG];omega
theorem y9{t:List UInt8}{k:Nat}(h:t.length≤k)(h7:k≤7):numN t<256^k:=by have:=(rA t t.length (RP _) (by omega)).1;rw[R7] at this;exact SL this (U4 (by decide) h)
theorem tq{t:List UInt8}(h:t.length≤7):kL t=((numN t:Nat):Int):=by have:=(rA t t.length (RP _) h).2;rwa[R7] at this
theorem vR(b:UInt8):numN [b]=b.toNat:=by simp[numN]
theorem AN(l:List UInt8):okI (kL l):=by
 rcases Vs l with rfl|⟨l,x,rfl⟩
 ·unfold kL okI;decide
 ·unfold kL okI
  rw[Vt,Tz];simp only[Uu,WK];rw[eG];omega
theorem lJ(s:List UInt8)(hs:s.length≤7):ab prog [] 252 [S s] (ret (I (numN s:Nat))):=by rw[←tq hs];exact vf s (by unfold okS;omega)
def tz:ATxn:=⟨0,0,0,[],[],0,0⟩
def bP(b:List UInt8):Nat:=(b.getD 21 0).toNat
def bD(b:List UInt8):Nat:=numN ((b.drop (22+bP b)).take 2)
def dV(b:List UInt8):ATxn:=⟨kL (b.take 8),(b.getD 8 0).toNat,(numN ((b.drop 9).take 4):Nat),(b.drop 22).take (bP b),b.drop (24+bP b),(numN ((b.drop 13).take 4):Nat),(numN ((b.drop 17).take 4):Nat)⟩
def dH(b:List UInt8):Prop:=b.length=24+bP b+bD b
def sN(s:List UInt8):Nat:=numN ((s.drop 1).take 2)
def sB(s:List UInt8):List UInt8:=(s.drop 3).take (sN s)
instance (b:List UInt8):Decidable (dH b):=inferInstanceAs (Decidable (_=_))
def dx(s:List UInt8):Prop:=s.length<3∨s.getD 0 0≠84
def dT(s:List UInt8):Prop:=1024<sN s∨s.length<sN s+7
def gH(s:List UInt8):Prop:=numN ((s.drop (sN s+3)).take 4)≠ma (s.take (sN s+3))
instance (s:List UInt8):Decidable (dx s):=inferInstanceAs (Decidable (_∨_))
instance (s:List UInt8):Decidable (dT s):=inferInstanceAs (Decidable (_∨_))
instance (s:List UInt8):Decidable (gH s):=inferInstanceAs (Decidable (_≠_))
def cb(s:List UInt8):ATxn×Int×Int:=
 if dx s then(tz,0,2)
 else if dT s then(tz,0,2)
 else if gH s then(tz,0,5)
 else if ¬ dH (sB s) then(tz,0,2)
 else if aT (dV (sB s))≠0 then(tz,0,aT (dV (sB s)))
 else(dV (sB s),(sN s+7:Nat),0)
theorem Qz(s:List UInt8):sN s<65536:=y9 (k:=2) (by simp;omega) (by decide)
theorem qV{s:List UInt8}(h:dx s):cb s=(tz,0,2):=by unfold cb;rw[RJ h]
theorem u5{s:List UInt8}(h1:¬ dx s)(h:dT s):cb s=(tz,0,2):=by unfold cb;rw[RI h1,RJ h]
theorem zt{s:List UInt8}(h1:¬ dx s)(h2:¬ dT s)(h:gH s):cb s=(tz,0,5):=by unfold cb;rw[RI h1,RI h2,RJ h]
theorem qE{s:List UInt8}(h1:¬ dx s)(h2:¬ dT s)(h3:¬ gH s)(h:¬ dH (sB s)):cb s=(tz,0,2):=by unfold cb;rw[RI h1,RI h2,RI h3,RJ h]
theorem z8{s:List UInt8}(h1:¬ dx s)(h2:¬ dT s)(h3:¬ gH s)(h4:dH (sB s))(h:aT (dV (sB s))≠0):cb s=(tz,0,aT (dV (sB s))):=by unfold cb;rw[RI h1,RI h2,RI h3,RI (fun h=>h h4),RJ h]
theorem u4{s:List UInt8}(h1:¬ dx s)(h2:¬ dT s)(h3:¬ gH s)(h4:dH (sB s))(h:aT (dV (sB s))=0):cb s=(dV (sB s),((sN s+7:Nat):Int),0):=by unfold cb;rw[RI h1,RI h2,RI h3,RI (fun h=>h h4),RI (fun h'=>h' h)]
theorem Bu{s:List UInt8}:dx s↔(s.length:Int)<3∨¬ ((s.getD 0 0).toNat:Int)=84:=by
 unfold dx
 have e:(s.getD 0 0≠84)↔¬ ((s.getD 0 0).toNat:Int)=84:=by
  constructor
  ·intro h e;apply h;exact Vc.1 (by show(s.getD 0 0).toNat=84;omega)
  ·intro h e;apply h;rw[e];rfl
 rw[e];omega
theorem AJ{s:List UInt8}:dT s↔1024<(sN s:Int)∨(s.length:Int)<(sN s:Int)+7:=by unfold dT;omega
theorem pQ(s:List UInt8)(hs:s.length≤1048576):ab prog [] 209 [S s] (ret (.tup [(cb s).1.av,I (cb s).2.1,I (cb s).2.2])):=by
 have hn1:ab prog [] 252 [S ((s.drop 1).take 2)] (ret (I (sN s))):=lJ _ (by simp;omega);have hN:=Qz s;have q3:((sN s:Int)+3).toNat=sN s+3:=by omega
 have q7:((sN s:Int)+7).toNat=sN s+7:=by omega
 have hsum:ab prog [] 253 [S (s.take (sN s+3))] (ret (I (ma (s.take (sN s+3))))):=xe _ (by unfold okS;simp;omega);have q4:sN s+7-(sN s+3)=4:=by omega
 have q5:List.take (sN s+3-3) (List.drop 3 s)=sB s:=by unfold sB;rw[TD]
 have hW:ab prog [] 252 [S ((sB s).take 8)] (ret (I (kL ((sB s).take 8)))):=vf _ (by unfold okS;simp;omega);have hbl:(sB s).length≤1048576:=by unfold sB;simp;omega
 have hP:bP (sB s)<256:=UInt8.toNat_lt _;have hD:bD (sB s)<65536:=y9 (k:=2) (by simp;omega) (by decide);have ebp:((sB s).getD 21 0).toNat=bP (sB s):=rfl;have ebd:numN (List.take 2 (List.drop (22+bP (sB s)) (sB s)))=bD (sB s):=rfl;have q22:(22+(bP (sB s):Int)).toNat=22+bP (sB s):=by omega
 have q24:(24+(bP (sB s):Int)).toNat=24+bP (sB s):=by omega
 have q2:24+bP (sB s)-(22+bP (sB s))=2:=by omega
 have q0:22+bP (sB s)-22=bP (sB s):=by omega
 have qd:List.take ((sB s).length-(24+bP (sB s))) (List.drop (24+bP (sB s)) (sB s))=List.drop (24+bP (sB s)) (sB s):=RK (by rw[RZ];omega);have hG:ab prog [] 219 [(dV (sB s)).av] (ret (I (aT (dV (sB s))))):=cZ _ (AN _) (by simp[dV];omega) (by unfold okS;simp[dV];omega);unfold ATxn.av dV at hG;refine zJ func209 ntmps209 results209 ?_;simp only[go_sem]
 (repeat' first
|(with_reducible refine AR.f ?_)
|refine bH (by decide) ?_
|(with_reducible refine AWP.cond rfl ?_ ?_<;>intro hc<;>(try simp only[hcs,R1,Sa,Sb] at hc))
|((first|((first|(with_reducible first|refine zR ?_|refine zQ ?_|refine zD ?_|refine zE ?_|refine zG ?_));intro K hK)|((first|refine zA hn1 ?_ ?_ ?_ ?_ ?_|refine zA hsum ?_ ?_ ?_ ?_ ?_|refine zA hW ?_ ?_ ?_ ?_ ?_|refine zA hG ?_ ?_ ?_ ?_ ?_);(focus exact rfl);(focus exact rfl);iterate 2 (focus((try simp(disch:=omega) only[go_sem,aa,q3,q7,q4,q5,Sg,dU,ebp,q22,q24,q2,q0,ebd,qd])<;>(try omega)<;>fail)))|((first|refine acallH_sc (lJ _ (by simp;omega)) rfl rfl ?_ ?_ ?_|refine acallQ_sc (lJ _ (by simp;omega)) rfl rfl ?_ ?_ ?_);iterate 2 (focus((try simp(disch:=omega) only[go_sem,aa,q3,q7,q4,q5,Sg,dU,ebp,q22,q24,q2,q0,ebd,qd])<;>(try omega)<;>fail)))|((first|refine zX hsum rfl ?_ ?_|refine zX hG rfl ?_ ?_);(focus((try simp(disch:=omega) only[go_sem,aa,q3,q7,q4,q5,Sg,dU,ebp,q22,q24,q2,q0,ebd,qd])<;>(try omega)<;>fail)))|((first|refine zX hn1 rfl ?_ ?_);(focus((try simp(disch:=omega) only[go_sem,aa,q3,q7,q4,q5,Sg,dU,ebp,q22,q24,q2,q0,ebd,qd])<;>(try omega)<;>fail)))|((first|refine zX (lJ _ (by simp;omega)) rfl ?_ ?_);(focus((try simp(disch:=omega) only[go_sem,aa,q3,q7,q4,q5,Sg,dU,ebp,q22,q24,q2,q0,ebd,qd])<;>(try omega)<;>fail)))|((first|refine zX hW rfl ?_ ?_);(focus((try simp(disch:=omega) only[go_sem,aa,q3,q7,q4,q5,Sg,dU,ebp,q22,q24,q2,q0,ebd,qd])<;>(try omega)<;>fail)))|((first|(with_reducible refine aunder_i ?_ ?_<;>intro hg)|with_reducible intro hg)<;>(first|(exfalso;simp at hg;done)|(have hg':=hg;(try simp only[hcs,R1,Sa,Sb] at hg');(try simp only[hg])))))<;>(try simp(disch:=omega) only[go_sem,aa,q3,q7,q4,q5,Sg,dU,ebp,q22,q24,q2,q0,ebd,qd])<;>(repeat' with_reducible refine Su ?_ ?_)<;>(try(with_reducible refine hK _ ?_;clear hK K)))
|omega)
 ·rw[qV (Bu.2 hc)];exact zEe @tz.eq_1
 all_goals(have h1:¬ dx s:=fun h=>by have:=Bu.1 h;omega)
 ·rw[u5 h1 (AJ.2 hc)];exact zEe @tz.eq_1
 all_goals(have h2:¬ dT s:=fun h=>by have:=AJ.1 h;omega)
 ·rw[zt h1 h2 (by unfold gH;omega)];exact zEe @tz.eq_1
 all_goals(have h3:¬ gH s:=fun h=>by unfold gH at h;omega)
 ·rw[qE h1 h2 h3 (by unfold dH;omega)];exact zEe @tz.eq_1
 ·rw[qE h1 h2 h3 (by unfold dH;omega)];exact zEe @tz.eq_1
 ·rw[qE h1 h2 h3 (by unfold dH;omega)];exact zEe @tz.eq_1
 ·rw[z8 h1 h2 h3 (by unfold dH;omega) hc];exact zEe (zx @tz.eq_1 @dV.eq_1)
 ·rw[u4 h1 h2 h3 (by unfold dH;omega) hc];exact zEe (zx @dV.eq_1 @Ss)
theorem ij(s:List UInt8)(b:Bool)(n:Nat)(hs:okS s)(ni:Int)(hi:ni=n)(hn:n≤7):ab prog [.cells [S s,B b]] 203 [.ptr 0 0,I ni] (dr (I (numN (cH s b n).t:Nat)) [.cells [S (cH s b n).s,B (cH s b n).bad]]):=by
 have hl:(cH s b n).t.length≤7:=by unfold cH;split<;>simp;omega
 rw[←tq hl];exact B9 s b n hs ni hi (by omega)
theorem JS(s:List UInt8)(b:Bool)(n:Nat):(cH s b n).s.length≤s.length∧(cH s b n).t.length≤s.length∧(cH s b n).t.length≤n:=by unfold cH;split<;>simp<;>omega
theorem Ga{s:List UInt8}{b:Bool}{n:Nat}(h:(cH s b n).bad=false):b=false∧n≤s.length∧(cH s b n).t=s.take n∧(cH s b n).s=s.drop n:=by
 unfold cH at *
 split at h
 ·cases h
 ·rename_i hn
  rw[RI hn];exact⟨by cases b<;>simp_all,by omega,rfl,rfl⟩
theorem M5{s:List UInt8}{n:Nat}(h:(cH s false n).bad=true):s.length<n:=by
 rcases UM s.length n with h'|h'
 ·exact h'
 ·rw[eM h'] at h;cases h
structure Dec where
 k1:Cur
 k2:Cur
 k3:Cur
 k4:Cur
 j1:Cur
 j2:Cur
 j3:Cur
 j4:Cur
 j5:Cur
 j6:Cur
 j7:Cur
 j8:Cur
 j9:Cur
structure Yg (s:List UInt8) (d:Dec):Prop where
 k1:cH s false 1=d.k1
 k2:cH d.k1.s d.k1.bad 2=d.k2
 k3:cH d.k2.s d.k2.bad (numN d.k2.t)=d.k3
 k4:cH d.k3.s d.k3.bad 4=d.k4
 j1:cH d.k3.t false 8=d.j1
 j2:cH d.j1.s d.j1.bad 1=d.j2
 j3:cH d.j2.s d.j2.bad 4=d.j3
 j4:cH d.j3.s d.j3.bad 4=d.j4
 j5:cH d.j4.s d.j4.bad 4=d.j5
 j6:cH d.j5.s d.j5.bad 1=d.j6
 j7:cH d.j6.s d.j6.bad (numN d.j6.t)=d.j7
 j8:cH d.j7.s d.j7.bad 2=d.j8
 j9:cH d.j8.s d.j8.bad (numN d.j8.t)=d.j9
theorem reads(s:List UInt8):∃ d,Yg s d:=by
 let k1:=cH s false 1
 let k2:=cH k1.s k1.bad 2
 let k3:=cH k2.s k2.bad (numN k2.t)
 let k4:=cH k3.s k3.bad 4
 let j1:=cH k3.t false 8
 let j2:=cH j1.s j1.bad 1
 let j3:=cH j2.s j2.bad 4
 let j4:=cH j3.s j3.bad 4
 let j5:=cH j4.s j4.bad 4
 let j6:=cH j5.s j5.bad 1
 let j7:=cH j6.s j6.bad (numN j6.t)
 let j8:=cH j7.s j7.bad 2
 let j9:=cH j8.s j8.bad (numN j8.t)
 exact⟨⟨k1,k2,k3,k4,j1,j2,j3,j4,j5,j6,j7,j8,j9⟩,⟨rfl,rfl,rfl,rfl,rfl,rfl,rfl,rfl,rfl,rfl,rfl,rfl,rfl⟩⟩
theorem gd{s:List UInt8}{b:Bool}{n:Nat}{k:Cur}(e:cH s b n=k)(h:k.bad=false):b=false∧n≤s.length∧k.t=s.take n∧k.s=s.drop n:=by subst e;exact Ga h
theorem no{s:List UInt8}{n:Nat}{k:Cur}(e:cH s false n=k)(h:k.bad=true):s.length<n:=by subst e;exact M5 h
theorem ln{s:List UInt8}{b:Bool}{n m:Nat}{k:Cur}(e:cH s b n=k)(h:s.length≤m):k.s.length≤m∧k.t.length≤m∧k.t.length≤n:=by subst e;have:=JS s b n;omega
def vY(d:Dec):ATxn:=⟨kL d.j1.t,(numN d.j2.t:Nat),(numN d.j3.t:Nat),d.j7.t,d.j9.t,(numN d.j4.t:Nat),(numN d.j5.t:Nat)⟩
theorem I2{s:List UInt8}{d:Dec}(r:Yg s d)(h:d.k1.t≠[84]):dx s:=by
 unfold dx;rcases UM s.length 1 with h0|h0
 ·left;omega
 right;intro e;apply h
 have:=r.k1;rw[eM h0] at this;rw[←this]
 match s,h0,e with
 |x::s,_,e=>simp at e;simp[e]
theorem EY{s:List UInt8}{d:Dec}(r:Yg s d)(h:d.k1.t=[84]):d.k1.bad=false∧d.k1.s=s.drop 1∧1≤s.length∧s.getD 0 0=84:=by
 have h1:=r.k1;rcases UM s.length 1 with h0|h0
 ·rw[BS (.inr h0)] at h1;rw[←h1] at h;cases h
 rw[eM h0] at h1;rw[←h1] at h;refine⟨by rw[←h1],by rw[←h1],h0,?_⟩
 match s,h0,h with
 |x::s,_,h=>simp at h;simp[h]
theorem Nj{s:List UInt8}{d:Dec}(r:Yg s d)(h:d.k1.t=[84])(h2:d.k2.bad=true):dx s:=by
 obtain⟨a1,a2,a3,_⟩:=EY r h;have h3:=r.k2;rw[a1,a2] at h3
 have:=no h3 h2;rw[RZ] at this
 left;omega
theorem E4{s:List UInt8}{d:Dec}(r:Yg s d)(h:d.k1.t=[84])(h2:d.k2.bad=false):¬ dx s∧numN d.k2.t=sN s∧d.k2.s=s.drop 3:=by
 obtain⟨a1,a2,a3,a4⟩:=EY r h;obtain⟨_,b2,b3,b4⟩:=gd r.k2 h2;rw[a2] at b2 b3 b4;rw[RZ] at b2;refine⟨fun hh=>?_,by rw[b3];rfl,by rw[b4,SH]⟩;rcases hh with hh|hh
 ·omega
 ·exact hh a4
theorem KL{s:List UInt8}{d:Dec}(r:Yg s d)(h:d.k1.t=[84])(h2:d.k2.bad=false)(h4:d.k4.bad=true):s.length<sN s+7:=by
 obtain⟨a1,a2,a3⟩:=E4 r h h2;rcases UM s.length (sN s+7) with h'|h'
 ·exact h'
 have r3:=r.k3;rw[h2,a2,a3,eM (by rw[RZ];omega)] at r3;have r4:=r.k4;rw[←r3] at r4
 have:=no r4 h4;simp at this;omega
theorem Ju{s:List UInt8}{d:Dec}(r:Yg s d)(h:d.k1.t=[84])(h2:d.k2.bad=false)(h4:d.k4.bad=false):sN s+7≤s.length∧d.k3.t=sB s∧d.k4.t=(s.drop (sN s+3)).take 4:=by obtain⟨a1,a2,a3⟩:=E4 r h h2;obtain⟨b1,b2,b3,b4⟩:=gd r.k4 h4;obtain⟨c1,c2,c3,c4⟩:=gd r.k3 b1;rw[a2,a3] at c2 c3 c4;rw[RZ] at c2;rw[c4] at b2 b3;rw[SH] at b2 b3;rw[RZ] at b2;exact⟨by omega,c3,by rw[b3,TS 3]⟩
theorem Ny{s:List UInt8}{d:Dec}(r:Yg s d){b:List UInt8}(hb:d.k3.t=b)(h9:d.j9.bad=false)(hs:d.j9.s=[]):dH b∧vY d=dV b:=by
 obtain⟨i9,l9,t9,s9⟩:=gd r.j9 h9;obtain⟨i8,l8,t8,s8⟩:=gd r.j8 i9;obtain⟨i7,l7,t7,s7⟩:=gd r.j7 i8;obtain⟨i6,l6,t6,s6⟩:=gd r.j6 i7;obtain⟨i5,l5,t5,s5⟩:=gd r.j5 i6;obtain⟨i4,l4,t4,s4⟩:=gd r.j4 i5;obtain⟨i3,l3,t3,s3⟩:=gd r.j3 i4;obtain⟨i2,l2,t2,s2⟩:=gd r.j2 i3;obtain⟨i1,l1,t1,s1⟩:=gd r.j1 i2;rw[hb] at t1 s1 l1;rw[s1] at t2 s2 l2;rw[s2,SH] at t3 s3 l3;rw[s3,SH] at t4 s4 l4;rw[s4,SH] at t5 s5 l5;rw[s5,SH] at t6 s6 l6;rw[s6,SH] at t7 s7 l7;rw[s7,SH] at t8 s8 l8;rw[s8,SH] at t9 s9 l9;simp only[Nat.reduceAdd,RZ] at *
 have e1:∀ k,k<b.length→(b.drop k).take 1=[b.getD k 0]:=fun k hk=>by rw[S7 hk,Tl,Tf];simp[hk]
 have n6:numN d.j6.t=bP b:=by rw[t6,e1 21 (by omega),vR];rfl
 rw[n6] at t7 s7 l7 t8 s8 l8 t9 s9 l9;have n8:numN d.j8.t=bD b:=by rw[t8,show 8+(14+bP b)=22+bP b from by omega];rfl
 rw[n8] at t9 s9 l9;have hz:d.j9.s.length=0:=by rw[hs];rfl
 rw[s9] at hz;simp only[RZ] at hz;have hok:b.length=24+bP b+bD b:=by omega
 refine⟨hok,?_⟩;unfold vY dV;rw[t1,t2,t3,t4,t5,t7,t9,e1 8 (by omega),vR];congr 1
 ·rw[show 8+(14+bP b+2)=24+bP b from by omega]
  exact RK (by rw[RZ];omega)
theorem Ln{s:List UInt8}{d:Dec}(r:Yg s d){b:List UInt8}(hb:d.k3.t=b)(h:dH b):d.j9.bad=false∧d.j9.s=[]:=by
 unfold dH at h;have e1:∀ k,k<b.length→(b.drop k).take 1=[b.getD k 0]:=fun k hk=>by rw[S7 hk,Tl,Tf];simp[hk]
 have r1:=r.j1;rw[hb,eM (by omega)] at r1;have r2:=r.j2;rw[←r1,eM (by simp only[RZ];omega),SH] at r2;have r3:=r.j3;rw[←r2,eM (by simp only[RZ];omega),SH] at r3;have r4:=r.j4;rw[←r3,eM (by simp only[RZ];omega),SH] at r4;have r5:=r.j5;rw[←r4,eM (by simp only[RZ];omega),SH] at r5;have r6:=r.j6;rw[←r5,eM (by simp only[RZ];omega),SH,e1 _ (by omega)] at r6;have n6:numN d.j6.t=bP b:=by rw[←r6,vR];rfl
 have r7:=r.j7;rw[n6,←r6,eM (by simp only[RZ];omega),SH] at r7;have r8:=r.j8;rw[←r7,eM (by simp only[RZ];omega),SH] at r8;have n8:numN d.j8.t=bD b:=by rw[←r8];rfl
 have r9:=r.j9;rw[n8,←r8,eM (by simp only[RZ];omega),SH] at r9;exact⟨by rw[←r9],by rw[←r9];exact Ug (by omega)⟩
theorem decode_c(s:List UInt8)(hs:s.length≤1048576):ab prog [] 140 [S s] (ret (.tup [(cb s).1.av,I (cb s).2.1,I (cb s).2.2])):=by
 obtain⟨d,r⟩:=reads s;have e1:=ln r.k1 hs;have e2:=ln r.k2 e1.1;have e3:=ln r.k3 e2.1;have e4:=ln r.k4 e3.1;have f1:=ln r.j1 e3.2.1;have f2:=ln r.j2 f1.1;have f3:=ln r.j3 f2.1;have f4:=ln r.j4 f3.1;have f5:=ln r.j5 f4.1;have f6:=ln r.j6 f5.1;have f7:=ln r.j7 f6.1;have f8:=ln r.j8 f7.1;have f9:=ln r.j9 f8.1;have hn:numN d.k2.t<65536:=y9 (k:=2) e2.2.2 (by decide);have ok {t:List UInt8} (h:t.length≤1048576):okS t:=by unfold okS;omega
 have c1:=u9 s false 1 (ok hs) 1 rfl;have c2:=ij d.k1.s d.k1.bad 2 (ok e1.1) 2 rfl (by decide);have c3:=u9 d.k2.s d.k2.bad (numN d.k2.t) (ok e2.1) (numN d.k2.t:Nat) rfl;have c4:=ij d.k3.s d.k3.bad 4 (ok e3.1) 4 rfl (by decide);have b1:=B9 d.k3.t false 8 (ok e3.2.1) 8 rfl (by decide);have b2:=ij d.j1.s d.j1.bad 1 (ok f1.1) 1 rfl (by decide);have b3:=ij d.j2.s d.j2.bad 4 (ok f2.1) 4 rfl (by decide);have b4:=ij d.j3.s d.j3.bad 4 (ok f3.1) 4 rfl (by decide);have b5:=ij d.j4.s d.j4.bad 4 (ok f4.1) 4 rfl (by decide);have b6:=ij d.j5.s d.j5.bad 1 (ok f5.1) 1 rfl (by decide);have b7:=u9 d.j6.s d.j6.bad (numN d.j6.t) (ok f6.1) (numN d.j6.t:Nat) rfl;have b8:=ij d.j7.s d.j7.bad 2 (ok f7.1) 2 rfl (by decide);have b9:=u9 d.j8.s d.j8.bad (numN d.j8.t) (ok f8.1) (numN d.j8.t:Nat) rfl;rw[r.k1] at c1;rw[r.k2] at c2;rw[r.k3] at c3;rw[r.k4] at c4;rw[r.j1] at b1;rw[r.j2] at b2;rw[r.j3] at b3;rw[r.j4] at b4;rw[r.j5] at b5;rw[r.j6] at b6;rw[r.j7] at b7;rw[r.j8] at b8;rw[r.j9] at b9;have q3:(3+(numN d.k2.t:Int)).toNat=3+numN d.k2.t:=by omega
 have cs:=Oj (s.take (3+numN d.k2.t)) (ok (by simp;omega));have cg:ab prog [] 119 [(vY d).av] (ret (I (aT (vY d)))):=sM (vY d) (ok f7.2.1) (ok f9.2.1);unfold ATxn.av vY at cg;refine zJ func140 ntmps140 results140 ?_;simp only[go_sem]
 (repeat' first
|(with_reducible refine AR.f ?_)
|(with_reducible refine AWP.cond rfl ?_ ?_<;>intro hc<;>(try simp only[hcs,R1,Sa,Sb] at hc))
|((first|((first|(with_reducible first|refine zR ?_));intro K hK)|((first|refine zA cs ?_ ?_ ?_ ?_ ?_|refine zA cg ?_ ?_ ?_ ?_ ?_);(focus exact rfl);(focus exact rfl);iterate 2 (focus((try simp(disch:=omega) only[go_sem,aa,q3,Sg])<;>(try omega)<;>fail)))|((first|refine zX cs rfl ?_ ?_|refine zX cg rfl ?_ ?_);(focus((try simp(disch:=omega) only[go_sem,aa,q3,Sg])<;>(try omega)<;>fail)))|(refine cO [1] (c1) ?_ ?_ ?_;(focus((try simp(disch:=omega) only[inj,Sk,Th,Sj,R6,RW,R5,Sr,go_sem,aa,q3,Sg])<;>(try omega)<;>fail));(focus((try simp(disch:=omega) only[inj,Sk,Th,Sj,R6,RW,R5,Sr,go_sem,aa,q3,Sg])<;>(try omega)<;>(try decide)<;>fail)))|(refine cO [1] (c2) ?_ ?_ ?_;(focus((try simp(disch:=omega) only[inj,Sk,Th,Sj,R6,RW,R5,Sr,go_sem,aa,q3,Sg])<;>(try omega)<;>fail));(focus((try simp(disch:=omega) only[inj,Sk,Th,Sj,R6,RW,R5,Sr,go_sem,aa,q3,Sg])<;>(try omega)<;>(try decide)<;>fail)))|(refine cO [1] (c3) ?_ ?_ ?_;(focus((try simp(disch:=omega) only[inj,Sk,Th,Sj,R6,RW,R5,Sr,go_sem,aa,q3,Sg])<;>(try omega)<;>fail));(focus((try simp(disch:=omega) only[inj,Sk,Th,Sj,R6,RW,R5,Sr,go_sem,aa,q3,Sg])<;>(try omega)<;>(try decide)<;>fail)))|(refine cO [1] (c4) ?_ ?_ ?_;(focus((try simp(disch:=omega) only[inj,Sk,Th,Sj,R6,RW,R5,Sr,go_sem,aa,q3,Sg])<;>(try omega)<;>fail));(focus((try simp(disch:=omega) only[inj,Sk,Th,Sj,R6,RW,R5,Sr,go_sem,aa,q3,Sg])<;>(try omega)<;>(try decide)<;>fail)))|(refine cO [2] (b1) ?_ ?_ ?_;(focus((try simp(disch:=omega) only[inj,Sk,Th,Sj,R6,RW,R5,Sr,go_sem,aa,q3,Sg])<;>(try omega)<;>fail));(focus((try simp(disch:=omega) only[inj,Sk,Th,Sj,R6,RW,R5,Sr,go_sem,aa,q3,Sg])<;>(try omega)<;>(try decide)<;>fail)))|(refine cO [2] (b2) ?_ ?_ ?_;(focus((try simp(disch:=omega) only[inj,Sk,Th,Sj,R6,RW,R5,Sr,go_sem,aa,q3,Sg])<;>(try omega)<;>fail));(focus((try simp(disch:=omega) only[inj,Sk,Th,Sj,R6,RW,R5,Sr,go_sem,aa,q3,Sg])<;>(try omega)<;>(try decide)<;>fail)))|(refine cO [2] (b3) ?_ ?_ ?_;(focus((try simp(disch:=omega) only[inj,Sk,Th,Sj,R6,RW,R5,Sr,go_sem,aa,q3,Sg])<;>(try omega)<;>fail));(focus((try simp(disch:=omega) only[inj,Sk,Th,Sj,R6,RW,R5,Sr,go_sem,aa,q3,Sg])<;>(try omega)<;>(try decide)<;>fail)))|(refine cO [2] (b4) ?_ ?_ ?_;(focus((try simp(disch:=omega) only[inj,Sk,Th,Sj,R6,RW,R5,Sr,go_sem,aa,q3,Sg])<;>(try omega)<;>fail));(focus((try simp(disch:=omega) only[inj,Sk,Th,Sj,R6,RW,R5,Sr,go_sem,aa,q3,Sg])<;>(try omega)<;>(try decide)<;>fail)))|(refine cO [2] (b5) ?_ ?_ ?_;(focus((try simp(disch:=omega) only[inj,Sk,Th,Sj,R6,RW,R5,Sr,go_sem,aa,q3,Sg])<;>(try omega)<;>fail));(focus((try simp(disch:=omega) only[inj,Sk,Th,Sj,R6,RW,R5,Sr,go_sem,aa,q3,Sg])<;>(try omega)<;>(try decide)<;>fail)))|(refine cO [2] (b6) ?_ ?_ ?_;(focus((try simp(disch:=omega) only[inj,Sk,Th,Sj,R6,RW,R5,Sr,go_sem,aa,q3,Sg])<;>(try omega)<;>fail));(focus((try simp(disch:=omega) only[inj,Sk,Th,Sj,R6,RW,R5,Sr,go_sem,aa,q3,Sg])<;>(try omega)<;>(try decide)<;>fail)))|(refine cO [2] (b7) ?_ ?_ ?_;(focus((try simp(disch:=omega) only[inj,Sk,Th,Sj,R6,RW,R5,Sr,go_sem,aa,q3,Sg])<;>(try omega)<;>fail));(focus((try simp(disch:=omega) only[inj,Sk,Th,Sj,R6,RW,R5,Sr,go_sem,aa,q3,Sg])<;>(try omega)<;>(try decide)<;>fail)))|(refine cO [2] (b8) ?_ ?_ ?_;(focus((try simp(disch:=omega) only[inj,Sk,Th,Sj,R6,RW,R5,Sr,go_sem,aa,q3,Sg])<;>(try omega)<;>fail));(focus((try simp(disch:=omega) only[inj,Sk,Th,Sj,R6,RW,R5,Sr,go_sem,aa,q3,Sg])<;>(try omega)<;>(try decide)<;>fail)))|(refine cO [2] (b9) ?_ ?_ ?_;(focus((try simp(disch:=omega) only[inj,Sk,Th,Sj,R6,RW,R5,Sr,go_sem,aa,q3,Sg])<;>(try omega)<;>fail));(focus((try simp(disch:=omega) only[inj,Sk,Th,Sj,R6,RW,R5,Sr,go_sem,aa,q3,Sg])<;>(try omega)<;>(try decide)<;>fail))))<;>(try simp(disch:=omega) only[go_sem,aa,q3,Sg])<;>(repeat' with_reducible refine Su ?_ ?_)<;>(try(with_reducible refine hK _ ?_;clear hK K)))
|omega)
 ·rw[qV (I2 r hc)];(refine zF rfl ?_ ?_ ?_ ?_;(iterate 3 (focus((try simp(disch:=omega) only[go_sem,aa,tz])<;>(try omega)<;>fail)));(try simp(disch:=omega) only[go_sem,aa,tz,I,B,S,zj]))
 all_goals(have hk:d.k1.t=[84]:=by assumption)
 ·cases hb:d.k2.bad with
  |true=>rw[qV (Nj r hk hb)];(refine zF rfl ?_ ?_ ?_ ?_;(iterate 3 (focus((try simp(disch:=omega) only[go_sem,aa,tz])<;>(try omega)<;>fail)));(try simp(disch:=omega) only[go_sem,aa,tz,I,B,S,zj]))
  | false=>
    obtain⟨a1,a2,a3⟩:=E4 r hk hb;rw[u5 a1 (.inl (by rw[hb] at hc;rw[←a2];rcases hc with hc|hc;cases hc;omega))];(refine zF rfl ?_ ?_ ?_ ?_;(iterate 3 (focus((try simp(disch:=omega) only[go_sem,aa,tz])<;>(try omega)<;>fail)));(try simp(disch:=omega) only[go_sem,aa,tz,I,B,S,zj]))
 all_goals(have hb:d.k2.bad=false∧(numN d.k2.t:Int)≤1024:=by assumption)
 all_goals obtain⟨a1,a2,a3⟩:=E4 r hk hb.1
 ·rw[u5 a1 (.inr (KL r hk hb.1 hc))];(refine zF rfl ?_ ?_ ?_ ?_;(iterate 3 (focus((try simp(disch:=omega) only[go_sem,aa,tz])<;>(try omega)<;>fail)));(try simp(disch:=omega) only[go_sem,aa,tz,I,B,S,zj]))
 all_goals(have h4:d.k4.bad=false:=by assumption)
 all_goals obtain⟨x1,x2,x3⟩:=Ju r hk hb.1 h4
 ·omega
 all_goals(have a4:¬ dT s:=fun h=>by unfold dT at h;omega)
 all_goals(have ee1:ma (List.take (3+numN d.k2.t) s)=ma (List.take (sN s+3) s):=by rw[a2,TS])
 all_goals(have ee2:numN d.k4.t=numN (List.take 4 (List.drop (sN s+3) s)):=by rw[x3])
 ·rw[zt a1 a4 (by unfold gH;omega)];(refine zF rfl ?_ ?_ ?_ ?_;(iterate 3 (focus((try simp(disch:=omega) only[go_sem,aa,tz])<;>(try omega)<;>fail)));(try simp(disch:=omega) only[go_sem,aa,tz,I,B,S,zj]))
 all_goals(have a5:¬ gH s:=fun h=>by unfold gH at h;omega)
 ·have hno:¬ dH (sB s):=fun h=>by
   obtain⟨u1,u2⟩:=Ln r x2 h;rcases hc with hc|hc
   ·rw[u1] at hc;cases hc
   ·exact hc u2
  rw[qE a1 a4 a5 hno];(refine zF rfl ?_ ?_ ?_ ?_;(iterate 3 (focus((try simp(disch:=omega) only[go_sem,aa,tz])<;>(try omega)<;>fail)));(try simp(disch:=omega) only[go_sem,aa,tz,I,B,S,zj]))
 all_goals(have h9:d.j9.bad=false∧d.j9.s=[]:=by assumption)
 all_goals obtain⟨y1,y2⟩:=Ny r x2 h9.1 h9.2
 ·have hg2:aT (dV (sB s))≠0:=y2▸hc
  rw[z8 a1 a4 a5 y1 hg2,←y2];(refine zF rfl ?_ ?_ ?_ ?_;(iterate 3 (focus((try simp(disch:=omega) only[go_sem,aa,tz,vY])<;>(try omega)<;>fail)));(try simp(disch:=omega) only[go_sem,aa,tz,vY,I,B,S,zj]))
 ·have hg2:aT (dV (sB s))=0:=y2▸hc
  rw[u4 a1 a4 a5 y1 hg2,←y2];(refine zF rfl ?_ ?_ ?_ ?_;(iterate 3 (focus((try simp(disch:=omega) only[go_sem,aa,vY,Ss,a2])<;>(try omega)<;>fail)));(try simp(disch:=omega) only[go_sem,aa,vY,Ss,a2,I,B,S,zj]))
def fw(l:List Int):Prop:=∀ k,k+1<l.length→l.getD k default<l.getD (k+1) default
theorem fe{l:List Int}(h:fw l){i:Nat}:∀{j:Nat},i<j→j<l.length→l.getD i default<l.getD j default
 |0,h1,_=>by omega
 | j+1,h1,h2=>by
   by_cases e:i=j
   ·subst e;exact h i h2
   ·exact Wu (fe h (by omega) (by omega)) (h j h2)
def bf(l:List Int)(key:Int):Nat:=l.findIdx fun x=>!decide (x<key)
theorem rr{l:List Int}{key:Int}{i:Nat}(h0:i≤l.length)(h1:∀ k,k<i→l.getD k default<key)(h2:i<l.length→¬ l.getD i default<key):bf l key=i:=by
 unfold bf
 by_cases e:i<l.length
 ·rw[VE e]
  have h3:=h2 e;rw[RG,RH e] at h3;refine⟨by simpa using h3,fun j hj=>?_⟩;have h4:=h1 j hj;rw[RG,RH (by omega)] at h4;simpa using h4
 ·have e2:i=l.length:=by omega
  subst e2;rw[Wr];intro x hx;obtain⟨j,hj,rfl⟩:=Tm hx;have h4:=h1 j hj;rw[RG,RH hj] at h4;simpa using h4
theorem CL{l:List Int}{key:Int}{i:Nat}(hr:fw l)(h1:∀ k,k<i→l.getD k default<key)(h2:i<l.length→¬ l.getD i default<key):key∈l↔i<l.length∧l.getD i default=key:=by
 rw[aM l default];constructor
 ·rintro⟨k,hk,e⟩
  have a:¬ k<i:=fun hki=>by have:=h1 k hki;omega
  have b:¬ i<k:=fun hik=>by have:=fe hr hik hk;rw[e] at this;exact h2 (by omega) this
  have c:i=k:=by omega
  subst c;exact⟨hk,e⟩
 ·rintro⟨h,e⟩;exact⟨i,h,e⟩
theorem z7(l:List Int)(key:Int)(h:l.length*8≤140737488351232)(hr:fw l) :
  ab prog [] 69 [.d (.sl 1 (l.map aY)),I key] (ret (.tup [I (bf l key),B (decide (key∈l))])):=by
 refine zJ func69 ntmps69 results69 ?_;simp only[go_sem]
 (refine zW qw zn Yj (z1 ?_)<;>(repeat with_reducible intro hc))
 refine Xd (ι:=Nat×Nat) (fun v=>v.1≤v.2∧v.2≤l.length∧(∀ k,k<v.1→l.getD k default<key)∧(v.2<l.length→¬ l.getD v.2 default<key)) (fun v=>v.2-v.1) [0,1,6] (fun v=>[(7,I v.1),(8,I v.2)]) (0,l.length) ?_ (by simp(disch:=omega) only[go_sem,aa,SI]) ?_
 ·exact⟨by simp,by simp,fun k hk=>by simp at hk,fun k=>by simp at k⟩
 intro⟨i,j⟩ ⟨h1,h2,h3,h4⟩;simp only at h1 h2 h3 h4;simp only[go_sem]
 (repeat' first
|(with_reducible refine AR.f ?_)
|refine bH (by decide) ?_
|(with_reducible refine AWP.cond rfl ?_ ?_<;>intro hc<;>(try simp only[hcs,R1,Sa,Sb] at hc))
|(refine bJ fun Kk hKk=>(cr dn func123 rfl (by kernel_rfl) (by simp[ntmps123]) ?_);simp only[ntmps123,results123,SK,gE,Sd,RQ,Nat.reduceAdd,RL,R3,go_sem])
|(refine bJ fun Kk hKk=>(cr dn func189 rfl (by kernel_rfl) (by simp[ntmps189]) ?_);simp only[ntmps189,results189,SK,gE,Sd,RQ,Nat.reduceAdd,RL,R3,go_sem])
|(refine bJ fun Kk hKk=>(cr dn func124 rfl (by kernel_rfl) (by simp[ntmps124]) ?_);simp only[ntmps124,results124,SK,gE,Sd,RQ,Nat.reduceAdd,RL,R3,go_sem])
|((first|((first|(with_reducible first|refine zR ?_));intro K hK)|(refine aend_in (v:=?_) hKk (by first|exact .inl rfl|exact .inr rfl) ?_ ?_ ?_;rotate_left;(focus((try simp(disch:=omega) only[go_sem,aa,lQ])<;>(try omega)<;>fail));(focus((try simp(disch:=omega) only[go_sem,aa,lQ])<;>(first|done|exact rfl)));clear hKk Kk)|((first|(with_reducible refine aunder_i ?_ ?_<;>intro hg)|with_reducible intro hg)<;>(first|(exfalso;simp at hg;done)|(have hg':=hg;(try simp only[hcs,R1,Sa,Sb] at hg');(try simp only[hg])))))<;>(try simp(disch:=omega) only[go_sem,aa,lQ])<;>(repeat' with_reducible refine Su ?_ ?_)<;>(try(with_reducible refine hK _ ?_;clear hK K)))
|omega)
 ·refine⟨((i+j)/2+1,j),⟨by simp only;omega,h2,fun k hk=>?_,h4⟩,by simp only;omega,?_⟩
  ·by_cases e:k=(i+j)/2
   ·rw[e];exact hc
   ·exact Wu (fe (j:=(i+j)/2) hr (by simp only at hk;omega) (by omega)) hc
  exact zSm Yj
 ·refine⟨(i,(i+j)/2),⟨by simp only;omega,by simp only;omega,h3,fun _=>Int.not_lt.2 hc⟩,by simp only;omega,?_⟩
  exact zSm Yj
 all_goals
  have e0:i=j:=by omega
  subst e0;have e1:bf l key=i:=rr (by omega) h3 h4;have e2:key∈l↔i<l.length∧l.getD i default=key:=CL hr h3 h4
  (refine zE2 @e1 ?_;(try simp(disch:=omega) only[go_sem,aa,e1,I,B,S,zj]))
  simp only[e2];simp at hg;simp
def bsI(lt:Nat→Bool):Nat→Nat→Nat→Nat
 |0,i,_=>i
 |f+1,i,j=>if i<j then(if lt ((i+j)/2)=true then bsI lt f ((i+j)/2+1) j else bsI lt f i ((i+j)/2)) else i
def ltN(ns:List (List UInt8))(key:List UInt8)(k:Nat):Bool:=decide (ns.getD k []<key)
def bsN(ns:List (List UInt8))(key:List UInt8):Nat:=bsI (ltN ns key) ns.length 0 ns.length
def jo(ns:List (List UInt8))(key:List UInt8):Bool:=decide (bsN ns key<ns.length∧ns.getD (bsN ns key) []=key)
theorem Fb{lt:Nat→Bool}{f i:Nat}:bsI lt f i i=i:=by
 cases f with
 |zero=>rfl
 |succ f=>rw[bsI,RI (by omega)]
theorem JY{lt:Nat→Bool}{f i j:Nat}(h:i<j)(h2:lt ((i+j)/2)=true):bsI lt (f+1) i j=bsI lt f ((i+j)/2+1) j:=by rw[bsI,RJ h,RJ h2]
theorem Lp{lt:Nat→Bool}{f i j:Nat}(h:i<j)(h2:¬ lt ((i+j)/2)=true):bsI lt (f+1) i j=bsI lt f i ((i+j)/2):=by rw[bsI,RJ h,RI h2]
theorem ri{ns:List (List UInt8)}{key:List UInt8}(hr:aF ns):∀{f i j:Nat},i≤j→j≤ns.length→j-i≤f→(∀ k,k<i→ns.getD k []<key)→(j<ns.length→¬ ns.getD j []<key)→bsI (ltN ns key) f i j=place ns key
 | 0,i,j,h1,h2,h3,h4,h5=>by
   rw[bsI];rw[show j=i from by omega] at h5;exact(gy (by omega) h4 h5).symm
 | f + 1,i,j,h1,h2,h3,h4,h5=>by
   by_cases h:i<j
   ·by_cases hc:ltN ns key ((i+j)/2)=true
    ·rw[JY h hc]
     unfold ltN at hc;rw[RN] at hc;refine ri hr (by omega) h2 (by omega) (fun k hk=>?_) h5
     by_cases e:k=(i+j)/2
     ·rw[e];exact hc
     ·exact Tk (aV (j:=(i+j)/2) hr (by omega) (by omega)) hc
    ·rw[Lp h hc]
     unfold ltN at hc;rw[RN] at hc;exact ri hr (by omega) (by omega) (by omega) h4 fun _=>hc
   ·rw[show j=i from by omega] at h5 ⊢
    rw[Fb];exact(gy (by omega) h4 h5).symm
theorem xu{ns:List (List UInt8)}{key:List UInt8}(hr:aF ns):bsN ns key=place ns key:=
 ri hr (RX _) (RP _) (by omega) (fun k hk=>by omega) (fun h=>by omega)
theorem pP{ns:List (List UInt8)}{key:List UInt8}(hr:aF ns):jo ns key=decide (key∈ns):=by
 unfold jo;rw[xu hr,Wl];constructor
 ·rintro⟨h1,h2⟩;rw[←h2];exact bu _ _ h1
 ·exact ag hr
theorem C3{ns:List (List UInt8)}{key:List UInt8}(h:jo ns key=true):key∈ns:=by
 unfold jo at h;rw[RN] at h
 have:=bu ns [] h.1;rwa[h.2] at this
theorem Gw(l:List XU)(key:List UInt8)(h:l.length*88≤140737488351232) :
  ab prog [] 130 [.d (.sl 9 (l.map XU.row)),S key,.d (.sc (.func (.func 131) #[] #[]))]
   (ret (.tup [I (bsN (l.map XU.path) key),B (jo (l.map XU.path) key)])):=by
 have hn:∀ k,(l.map XU.path).getD k []=(l.getD k default).path:=fun k=>cW XU.path l k default
 refine zJ func130 ntmps130 results130 ?_;simp only[go_sem]
 (refine zW qw zn Yj (z1 ?_)<;>(repeat with_reducible intro hc))
 refine Xd (ι:=Nat×Nat×Nat) (fun v=>v.2.1≤v.2.2∧v.2.2≤l.length∧v.2.2-v.2.1≤v.1∧bsI (ltN (l.map XU.path) key) v.1 v.2.1 v.2.2=bsN (l.map XU.path) key) (fun v=>v.1) [0,1,2,8] (fun v=>[(9,I v.2.1),(10,I v.2.2)]) (l.length,0,l.length) ?_ (by simp(disch:=omega) only[go_sem,aa,SI]) ?_
 ·refine⟨by simp,by simp,by simp,?_⟩
  unfold bsN;simp only[RO]
 intro⟨f,i,j⟩ ⟨h1,h2,h3,h4⟩;simp only at h1 h2 h3 h4;simp only[go_sem]
 (repeat' first
|(with_reducible refine AR.f ?_)
|refine bH (by decide) ?_
|(with_reducible refine AWP.cond rfl ?_ ?_<;>intro hc<;>(try simp only[hcs,R1,Sa,Sb] at hc))
|((first|((first|(with_reducible first|refine zR ?_));intro K hK)|((first|refine acallH_sc (treeCmp_c _ _) rfl rfl ?_ ?_ ?_|refine acallQ_sc (treeCmp_c _ _) rfl rfl ?_ ?_ ?_);iterate 2 (focus((try simp(disch:=omega) only[go_sem,aa,lQ])<;>(try omega)<;>fail)))|((first|refine zX (treeCmp_c _ _) rfl ?_ ?_);(focus((try simp(disch:=omega) only[go_sem,aa,lQ])<;>(try omega)<;>fail)))|((first|(with_reducible refine aunder_i ?_ ?_<;>intro hg)|with_reducible intro hg)<;>(first|(exfalso;simp at hg;done)|(have hg':=hg;(try simp only[hcs,R1,Sa,Sb] at hg');(try simp only[hg])))))<;>(try simp(disch:=omega) only[go_sem,aa,lQ])<;>(repeat' with_reducible refine Su ?_ ?_)<;>(try(with_reducible refine hK _ ?_;clear hK K)))
|omega)
 ·rw[kO] at hc
  obtain⟨g,rfl⟩:∃ g,f=g+1:=⟨f-1,by omega⟩;have hlt:ltN (l.map XU.path) key ((i+j)/2)=true:=by unfold ltN;rw[RN,hn];exact hc
  rw[JY (by omega) hlt] at h4;refine⟨(g,(i+j)/2+1,j),⟨by simp only;omega,h2,by simp only;omega,h4⟩,by simp only;omega,?_⟩;exact zSm Yj
 ·have hc2:¬ pb (l.getD ((i+j)/2) default).path key<0:=by omega
  rw[kO,←hn] at hc2;obtain⟨g,rfl⟩:∃ g,f=g+1:=⟨f-1,by omega⟩;have hlt:¬ ltN (l.map XU.path) key ((i+j)/2)=true:=by unfold ltN;rw[RN];exact hc2
  rw[Lp (by omega) hlt] at h4;refine⟨(g,i,(i+j)/2),⟨by simp only;omega,by simp only;omega,by simp only;omega,h4⟩,by simp only;omega,?_⟩;exact zSm Yj
 all_goals
  have e0:i=j:=by omega
  subst e0;rw[Fb] at h4
  (refine zE2 (zx @h4 @jo.eq_1) ?_;(try simp(disch:=omega) only[go_sem,aa,h4,jo,I,B,S,zj]))
  simp only[←h4,jo,RO,hn,yP];simp at hg;simp;try omega
def jH(l:List AWatch)(w:AWatch):List AWatch×Int:=
 if w.kind≠1∧w.kind≠2 then([],4) else if ¬ br w.path=true then([],2) else if w.session<1∨2147483647<w.session then([],3)
 else if w∈l then(l,0) else if 400≤l.length then([],6) else(l++[w],0)
def ib(l:List AWatch)(s:Int):List AWatch:=l.filter fun w=>decide (w.session≠s)
def CI(l:List AWatch)(w:AWatch):Int:=if w∈l then(l.findIdx (fun x=>decide (x=w)):Nat) else -1
theorem M2{l:List AWatch}{w:AWatch}{k:Nat}(hk:k<l.length)(h:l.getD k default=w)(hno:∀ j,j<k→l.getD j default≠w):CI l w=k:=by
 have hg:∀ j,(hj:j<l.length)→l.getD j default=l[j]:=fun j hj=>by rw[RG,RH hj];rfl
 unfold CI;rw[RJ (by rw[←h,hg k hk];exact SD hk)];congr 1;rw[VE hk];refine⟨by rw[RN,←hg k hk];exact h,fun j hj=>?_⟩;rw[RR,←hg j (by omega)];exact hno j hj
theorem EJ{l:List AWatch}{w:AWatch}(hno:∀ j,j<l.length→l.getD j default≠w):CI l w=-1∧¬ w∈l:=by
 have h:¬ w∈l:=fun hm=>by obtain⟨j,hj,e⟩:=Tm hm;exact hno j hj (by rw[RG,RH hj];exact e)
 exact⟨by unfold CI;rw[RI h],h⟩
theorem Nz(l:List AWatch)(w:AWatch):decide (0≤CI l w)=decide (w∈l):=by
 unfold CI;split
 ·rw[decide_eq_true (by omega)];symm;rw[RN];assumption
 ·rw[R0 (by omega)];symm;rw[RR];assumption
theorem LJ(l:List AWatch)(w:AWatch)(h:l.length*32≤140737488351232):ab prog [] 231 [.d (.sl 3 (l.map AWatch.row)),w.av] (ret (I (CI l w))):=by
 refine zJ func231 ntmps231 results231 ?_;simp only[go_sem]
 (refine zW qw zn Yj (z1 ?_)<;>(repeat with_reducible intro hc))
 refine W9 (ι:=Nat) (fun k=>k≤l.length∧∀ j,j<k→l.getD j default≠w) (fun k=>l.length-k) [0,3,7] (fun k=>[(8,I k)]) (fun k=>[.cells [I w.session,I w.kind,.d (.str w.path)]]) 0 ?_ ?_ ?_
 ·exact⟨by omega,by omega⟩
 ·simp only[go_sem];exact zSm Yj
 intro k ⟨hk,hk2⟩;simp only[go_sem]
 (refine zW qw zn @AWatch.rgetD (z3 ?_ ?_ ?_)<;>(repeat with_reducible intro hc))
 ·rw[M2 (by assumption) hc.symm hk2];exact zEe Yj
 ·refine⟨k+1,⟨by omega,fun j hj=>?_⟩,by omega,?_⟩
  ·by_cases e:j=k
   ·subst e;exact fun h=>hc h.symm
   ·exact hk2 j (by omega)
  exact zSm Yj
 ·rw[(EJ (fun j hj=>hk2 j (by omega))).1];exact zEe Yj
theorem B5(l:List AWatch)(w:AWatch)(h:l.length*32≤140737488351232):ab prog [] 179 [.d (.sl 3 (l.map AWatch.row)),w.av] (ret (B (decide (w∈l)))):=by
 refine zJ func179 ntmps179 results179 ?_;simp only[go_sem]
 (refine zW qw (z1 (LJ l w h)) Yj (z1 ?_)<;>(repeat with_reducible intro hc))
 exact zEe @Nz
theorem ly(l:List AWatch)(s:Int)(k:Nat)(h:k<l.length):ib (l.take (k+1)) s=if(l.getD k default).session≠s then ib (l.take k) s++[l.getD k default] else ib (l.take k) s:=by
 have:l.take (k+1)=l.take k++[l.getD k default]:=aN l k h;rw[this];unfold ib;rw[SA];split
 ·rw[S2 (by simpa using(by assumption:_≠_))];rfl
 ·rw[SE (by simpa using(by assumption:¬ _≠_)),S3,Se]
theorem wK(s:Int):ib [] s=[]:=rfl
theorem Pv(l:List AWatch)(s:Int)(h:l.length*32≤140737488351232):ab prog [] 186 [.d (.sl 3 (l.map AWatch.row)),I s] (ret (.d (.sl 3 ((ib l s).map AWatch.row)))):=by
 refine zJ func186 ntmps186 results186 ?_;simp only[go_sem]
 (refine zW qw zn Yj (z1 ?_)<;>(repeat with_reducible intro hc))
 refine Xa (Xf 5 3 rfl) ?_;simp only[go_sem];refine W9 (ι:=Nat) (fun k=>k≤l.length) (fun k=>l.length-k) [1,8,9] (fun k=>[(10,I k),(5,.osl 0 3 0 (ib (l.take k) s).length)]) (fun k=>[.rows 3 ((ib (l.take k) s).map AWatch.row)]) 0 ?_ ?_ ?_
 ·omega
 ·simp only[go_sem,wK];exact zSm Yj
 intro k hk;have hol:(ib (l.take k) s).length≤k:=R8 (SW _ _) (Tg _ _);simp only[go_sem]
 (refine zW qw zn (zx @AWatch.rgetD (zx @ay @AWatch.rsnoc)) (z3 ?_ ?_ ?_)<;>(repeat with_reducible intro hc))
 ·refine Zq (k+1) ?_
  rw[ly _ _ _ (by assumption),RJ hc];exact zFr [3] @List.length_append.{0}
 ·refine Zq (k+1) ?_
  rw[ly _ _ _ (by assumption),RI (by simpa using hc)];exact zFr [0] Yj
 ·have e:k=l.length:=by omega
  subst e;simp only[R7];exact zEe Yj
theorem DC(l:List AWatch)(s:Int)(h:l.length*32≤140737488351232):ab prog [] 159 [.d (.sl 3 (l.map AWatch.row)),I s] (ret (.d (.sl 3 ((ib l s).map AWatch.row)))):=by
 refine zJ func159 ntmps159 results159 ?_;simp only[go_sem]
 (refine zW qw zn Yj (z1 ?_)<;>(repeat with_reducible intro hc))
 refine Xa (Xf 5 3 rfl) ?_;simp only[go_sem];refine W9 (ι:=Nat) (fun k=>k≤l.length) (fun k=>l.length-k) [1,8,9] (fun k=>[(10,I k),(5,.osl 0 3 0 (ib (l.take k) s).length)]) (fun k=>[.rows 3 ((ib (l.take k) s).map AWatch.row)]) 0 ?_ ?_ ?_
 ·omega
 ·simp only[go_sem,wK];exact zSm Yj
 intro k hk;have hol:(ib (l.take k) s).length≤k:=R8 (SW _ _) (Tg _ _);simp only[go_sem]
 (refine zW qw zn (zx @AWatch.rgetD (zx @ay @AWatch.rsnoc)) (z3 ?_ ?_ ?_)<;>(repeat with_reducible intro hc))
 ·refine Zq (k+1) ?_
  rw[ly _ _ _ (by assumption),RJ hc];exact zFr [3] @List.length_append.{0}
 ·refine Zq (k+1) ?_
  rw[ly _ _ _ (by assumption),RI (by simpa using hc)];exact zFr [0] Yj
 ·have e:k=l.length:=by omega
  subst e;simp only[R7];exact zEe Yj
theorem tV(a b:List AWatch)(h:a.length*32≤140737488351232)(h2:b.length*32≤140737488351232):ab prog [] 63 [.d (.sl 3 (a.map AWatch.row)),.d (.sl 3 (b.map AWatch.row))] (ret (B (decide (a=b)))):=by
 refine zJ func63 ntmps63 results63 ?_;simp only[go_sem]
 (refine zW qw zn Yj (z2 ?_ ?_)<;>(repeat with_reducible intro hc))
 ·(refine zE2 Yj ?_;(try simp(disch:=omega) only[go_sem,aa,I,B,S,zj]))
  symm;rw[RR];intro e;subst e;simp at hc
 have h3:=hc;refine Xd (ι:=Nat) (fun k=>k≤a.length∧∀ j,j<k→a.getD j default=b.getD j default) (fun k=>a.length-k) [0,1,12] (fun k=>[(13,I k)]) 0 ?_ (by simp(disch:=omega) only[go_sem,aa,SI]) ?_
 ·exact⟨by omega,by omega⟩
 intro k ⟨hk,hk2⟩;simp only[go_sem]
 (refine zW qw zn @AWatch.rgetD (z3 ?_ ?_ ?_)<;>(repeat with_reducible intro hc))
 ·(refine zE2 Yj ?_;(try simp(disch:=omega) only[go_sem,aa,I,B,S,zj]))
  symm;rw[RR];intro e;subst e;simp at hc
 ·refine⟨k+1,⟨by omega,fun j hj=>?_⟩,by omega,?_⟩
  ·by_cases e:j=k
   ·subst e;exact hc
   ·exact hk2 j (by omega)
  exact zSm Yj
 ·(refine zE2 Yj ?_;(try simp(disch:=omega) only[go_sem,aa,I,B,S,zj]))
  symm;rw[RN]
  exact fP (by omega) fun j hj=>hk2 j (by omega)
theorem xJ{l:List AWatch}{w:AWatch}(h:w.kind≠1∧w.kind≠2):jH l w=([],4):=by unfold jH;rw[RJ h]
theorem wy{l:List AWatch}{w:AWatch}(h1:¬ (w.kind≠1∧w.kind≠2))(h2:br w.path=false):jH l w=([],2):=by unfold jH;rw[RI h1,RJ (by rw[h2];decide)]
theorem xp{l:List AWatch}{w:AWatch}(h1:¬ (w.kind≠1∧w.kind≠2))(h2:br w.path=true):jH l w=if w.session<1∨2147483647<w.session then([],3) else if w∈l then(l,0) else if 400≤l.length then([],6) else(l++[w],0):=by unfold jH;rw[RI h1,RI (by rw[h2];decide)]
theorem nD(l:List AWatch)(w:AWatch):l.map AWatch.row++[w.row]=(l++[w]).map AWatch.row:=by rw[Sn];rfl
theorem Qn(l:List AWatch)(w:AWatch)(h:l.length*32≤140737488351232)(hw:okS w.path):ab prog [] 111 [.d (.sl 3 (l.map AWatch.row)),w.av] (ret (.tup [.d (.sl 3 ((jH l w).1.map AWatch.row)),I (jH l w).2])):=by
 refine zJ func111 ntmps111 results111 ?_;simp only[go_sem]
 (refine zW qw (z2 (good_c w.path hw) (B5 l w h)) Yj (zc ?_ (zc ?_ (z4 ?_ ?_ ?_ ?_)))<;>(repeat with_reducible intro hc))
 ·rw[xJ hc];exact zEe Yj
 ·rw[wy (by omega) hc];exact zEe Yj
 all_goals(have hk:¬ (w.kind≠1∧w.kind≠2):=by omega)
 all_goals rw[xp hk (by assumption)]
 ·rw[RJ hc];exact zEe Yj
 all_goals rw[RI (by omega)]
 ·rw[RJ hc];exact zEe Yj
 all_goals rw[RI (by assumption)]
 ·rw[RJ (by omega)];exact zEe Yj
 ·rw[RI (by omega)];(refine zE2 (zx @AWatch.rsnoc @nD) ?_;(try simp(disch:=omega) only[go_sem,aa,AWatch.rsnoc,nD,I,B,S,zj]))
  exact Or.inl (RK (by simp))
theorem Hk(l:List AWatch)(w:AWatch)(h:l.length*32≤140737488351232)(hw:w.path.length≤1048576):ab prog [] 98 [.d (.sl 3 (l.map AWatch.row)),w.av] (ret (.tup [.d (.sl 3 ((jH l w).1.map AWatch.row)),I (jH l w).2])):=by
 refine zJ func98 ntmps98 results98 ?_;simp only[go_sem]
 (refine zW qw (z1 (bx w.path hw)) Yj (z4 ?_ ?_ ?_ ?_)<;>(repeat with_reducible intro hc))
 ·rw[xJ (by omega)];exact zEe Yj
 ·rw[wy (by omega) hc];exact zEe Yj
 all_goals(have hk:¬ (w.kind≠1∧w.kind≠2):=by omega)
 all_goals rw[xp hk (by assumption)]
 ·rw[RJ (by omega)];exact zEe Yj
 rw[RI (by omega)];refine W9 (ι:=Nat) (fun k=>k≤l.length∧∀ j,j<k→l.getD j default≠w) (fun k=>l.length-k) [0,3,6,31,32] (fun k=>[(33,I k)]) (fun k=>[.cells [I w.session,I w.kind,.d (.str w.path)],.rows 3 (l.map AWatch.row)]) 0 ?_ ?_ ?_
 ·exact⟨by omega,by omega⟩
 ·simp only[go_sem];exact zSm Yj
 intro k ⟨hk1,hk2⟩;simp only[go_sem]
 (refine zW qw zn @AWatch.rgetD (z4 ?_ ?_ ?_ ?_)<;>(repeat with_reducible intro hc))
 ·have hm:w∈l:=by rw[←hc];exact bu l default (by assumption)
  rw[RJ hm];exact zEe Yj
 ·refine⟨k+1,⟨by omega,fun j hj=>?_⟩,by omega,?_⟩
  ·by_cases e:j=k
   ·subst e;exact hc
   ·exact hk2 j (by omega)
  exact zFr [0,1] Yj
 all_goals rw[RI (EJ (fun j hj=>hk2 j (by omega))).2]
 ·rw[RJ (by omega)];exact zEe Yj
 ·rw[RI (by omega)];(refine zE2 (zx @AWatch.rsnoc @nD) ?_;(try simp(disch:=omega) only[go_sem,aa,AWatch.rsnoc,nD,I,B,S,zj]))
  exact Or.inl (RK (by simp))
theorem nj{s:List UInt8}(h:br s=true):s.length≤200:=by
 unfold br at h;rw[SQ,RN,RU,RN] at h;rcases h with h|h
 ·subst h;decide
 ·exact h.1
theorem oV{s:List UInt8}(h:aU s=true):s.length≤40:=by
 unfold aU at h;rw[RU,RU,RN] at h
 have:=h.2.2;omega
def jr(dir name:List UInt8):List UInt8:=if dir=[47] then 47::name else dir++47::name
def df(dir name:List UInt8):List UInt8×Int:=if br dir=true∧aU name=true then(if 200<(jr dir name).length then([],1) else(jr dir name,0)) else([],2)
theorem kf{dir name:List UInt8}(h:¬ (br dir=true∧aU name=true)):df dir name=([],2):=by unfold df;rw[RI h]
theorem oH{dir name:List UInt8}(h1:br dir=true)(h2:aU name=true)(h:200<(jr dir name).length):df dir name=([],1):=by unfold df;rw[RJ ⟨h1,h2⟩,RJ h]
theorem va{dir name:List UInt8}(h1:br dir=true)(h2:aU name=true)(h:(jr dir name).length≤200):df dir name=(jr dir name,0):=by unfold df;rw[RJ ⟨h1,h2⟩,RI (by omega)]
theorem gW(name:List UInt8):jr [47] name=47::name:=by unfold jr;rw[RJ rfl]
theorem kM{dir:List UInt8}(h:¬ dir=[47])(name:List UInt8):jr dir name=dir++47::name:=by unfold jr;rw[RI h]
theorem I0(dir name:List UInt8)(hd:okS dir)(hn:okS name):ab prog [] 227 [S dir,S name] (ret (.tup [S (df dir name).1,I (df dir name).2])):=by
 have hn':=hn;unfold okS at hn'
 by_cases h1:br dir=true
 case neg=>
  rw[kf (fun h=>h1 h.1)];refine zJ func227 ntmps227 results227 ?_;simp only[go_sem]
  (refine zW qw (z1 ((good_c dir hd).re (congrArg B (Tq h1)))) Yj (z1 ?_)<;>(repeat with_reducible intro hc))
  exact zEe Yj
 by_cases h2:aU name=true
 case neg=>
  rw[kf (fun h=>h2 h.2)];refine zJ func227 ntmps227 results227 ?_;simp only[go_sem]
  (refine zW qw (z2 ((good_c dir hd).re (by rw[h1])) ((iC name hn).re (congrArg B (Tq h2)))) Yj (z1 ?_)<;>(repeat with_reducible intro hc))
  exact zEe Yj
 have g1:=nj h1;have g2:=oV h2;refine zJ func227 ntmps227 results227 ?_;simp only[go_sem]
 (refine zW qw (z2 ((good_c dir hd).re (by rw[h1])) ((iC name hn).re (by rw[h2]))) (zx @List.append_assoc.{0} (zx @List.cons_append.{0} (zx @List.nil_append.{0} @List.singleton_append.{0}))) (z3 ?_ ?_ ?_)<;>(repeat with_reducible intro hc))
 all_goals rcases Decidable.em (dir=[47]) with e|e
 all_goals first
  |(exfalso;simp_all;done)
  |(have hl:200<(jr dir name).length:=by(first|rw[e,gW,RQ]|rw[kM e,RL,RQ])<;>(try simp[e] at hc)<;>omega
    rw[oH h1 h2 hl];exact zEe Yj)
  |(have hl:(jr dir name).length≤200:=by(first|rw[e,gW,RQ]|rw[kM e,RL,RQ])<;>(try simp[e] at hc)<;>omega
    rw[va h1 h2 hl];(first|rw[e,gW]|rw[kM e]);exact zEe (zx @List.cons_append.{0} @List.nil_append.{0}))
theorem tl(dir name:List UInt8)(hd:dir.length≤1048576)(hn:okS name):ab prog [] 172 [S dir,S name] (ret (.tup [S (df dir name).1,I (df dir name).2])):=by
 have hn':=hn;unfold okS at hn'
 by_cases h1:br dir=true
 case neg=>
  rw[kf (fun h=>h1 h.1)];refine zJ func172 ntmps172 results172 ?_;simp only[go_sem]
  (refine zW qw (z1 ((bx dir hd).re (congrArg B (Tq h1)))) Yj (z1 ?_)<;>(repeat with_reducible intro hc))
  exact zEe Yj
 by_cases h2:aU name=true
 case neg=>
  rw[kf (fun h=>h2 h.2)];refine zJ func172 ntmps172 results172 ?_;simp only[go_sem]
  (refine zW qw (z2 ((bx dir hd).re (by rw[h1])) ((ref_named_c name hn).re (congrArg B (Tq h2)))) Yj (z1 ?_)<;>(repeat with_reducible intro hc))
  exact zEe Yj
 have g1:=nj h1;have g2:=oV h2;refine zJ func172 ntmps172 results172 ?_;simp only[go_sem]
 (refine zW qw (z2 ((bx dir hd).re (by rw[h1])) ((ref_named_c name hn).re (by rw[h2]))) (zx @List.append_assoc.{0} (zx @List.cons_append.{0} (zx @List.nil_append.{0} @List.singleton_append.{0}))) (z4 ?_ ?_ ?_ ?_)<;>(repeat with_reducible intro hc))
 all_goals rcases Decidable.em (dir=[47]) with e|e
 all_goals first
  |(exfalso;simp_all;done)
  |(have hl:200<(jr dir name).length:=by(first|rw[e,gW,RQ]|rw[kM e,RL,RQ])<;>(try simp[e] at hc)<;>omega
    rw[oH h1 h2 hl];exact zEe Yj)
  |(have hl:(jr dir name).length≤200:=by(first|rw[e,gW,RQ]|rw[kM e,RL,RQ])<;>(try simp[e] at hc)<;>omega
    rw[va h1 h2 hl];(first|rw[e,gW]|rw[kM e]);exact zEe (zx @List.cons_append.{0} @List.nil_append.{0}))
theorem wx(j n:Nat):lM (j+1) n=dig (n/10^j)::lM j n:=by
 unfold lM;rw[List.range_succ_eq_map,TL,WX];congr 1;refine VL fun i _=>?_
 show dig (n/10^(j+1-1-(i+1)))=dig (n/10^(j-1-i));rw[show j+1-1-(i+1)=j-1-i from by omega]
theorem px(k n:Nat):(lM k n).length=k:=by simp[lM]
theorem xD{j n:Nat}(h:n/10^j=0):∀ m,lM (j+m) n=List.replicate m 48++lM j n
 |0=>rfl
 | m+1=>by
   have e:n/10^(j+m)=0:=by rw[Nat.pow_add,←TX,h,Nat.zero_div]
   rw[←SX,wx,xD h m,e,VK];rfl
def qy(name:List UInt8)(n:Nat):List UInt8:=name++lM 10 n
def dP(name:List UInt8)(n:Int):List UInt8×Int:=if n<0∨2147483647<n then([],3) else if aU (qy name n.toNat)=true then(qy name n.toNat,0) else([],2)
def serB(name:List UInt8)(n j:Nat):List UInt8:=name++(List.replicate (10-j) 48++lM j n)
theorem uG(name:List UInt8)(n j:Nat)(h:j≤10):(serB name n j).length=name.length+10:=by unfold serB;rw[RL,RL,TJ,px];omega
theorem J1(name:List UInt8)(n j:Nat)(h:j<10):(serB name n j).set (name.length+9-j) (dig (n/10^j))=serB name n (j+1):=by unfold serB;rw[show 10-j=(10-(j+1))+1 from by omega,VA,wx,Sq,TZ _ _ (by omega),TZ _ _ (by simp;omega)];rw[TJ,show name.length+9-j-name.length-(10-(j+1))=0 from by omega];rfl
theorem L8(name:List UInt8)(n j:Nat)(h:n/10^j=0)(hj:j≤10):serB name n j=qy name n:=by unfold serB qy;rw[←xD h,show j+(10-j)=10 from by omega]
theorem BP{name:List UInt8}{n:Int}(h:n<0∨2147483647<n):dP name n=([],3):=by unfold dP;rw[RJ h]
theorem Ep{name:List UInt8}{n:Nat}(h:n≤2147483647)(h2:aU (qy name n)=true):dP name n=(qy name n,0):=by unfold dP;rw[RI (by omega)];exact RJ h2
theorem Fk{name:List UInt8}{n:Nat}(h:n≤2147483647)(h2:¬ aU (qy name n)=true):dP name n=([],2):=by unfold dP;rw[RI (by omega)];exact RI h2
theorem wD(name:List UInt8)(n:Nat):name++[48,48,48,48,48,48,48,48,48,48]=serB name n 0:=rfl
theorem GR{l:List UInt8}{n:Nat}(h:l.length=n):List.take n (l.map aL)=l.map aL:=RK (by rw[RO];omega)
theorem vu(name:List UInt8)(n:Int)(hn:name.length≤1048576)(hi:okI n):ab prog [] 226 [S name,I n] (ret (.tup [S (dP name n).1,I (dP name n).2])):=by
 unfold okI at hi
 by_cases hb:n<0∨2147483647<n
 ·rw[BP hb]
  refine zJ func226 ntmps226 results226 ?_;simp only[go_sem]
  (refine zW qw zn Yj (z1 ?_)<;>(repeat with_reducible intro hc))
  all_goals first|omega|skip
  all_goals exact zEe Yj
 obtain⟨m,rfl⟩:=S1 (a:=n) (by omega);have hm:m≤2147483647:=by omega
 refine zJ func226 ntmps226 results226 ?_;simp only[go_sem]
 (refine zW qw zn (zx @wD (zx @uG @RX)) (z1 ?_)<;>(repeat with_reducible intro hc))
 have hlz:=uG name m 0 (by omega);refine W9 (ι:=Nat) (fun j=>j≤10) (fun j=>10-j) [6] (fun j=>[(1,I ((m/10^j:Nat):Int)),(7,I ((name.length:Int)+9-j))]) (fun j=>[.bytes (serB name m j)]) 0 ?_ ?_ ?_
 ·omega
 ·simp only[go_sem];(refine ax.same ?_;simp(disch:=omega) only[go_sem,aa,Ss,wD,Vn,VC]);congr 2;omega
 intro j hj;have hl:=uG name m j hj;have hq:m/10^j≤2147483647:=R8 (Ve _ _) hm;simp only[go_sem]
 by_cases h0:m/10^j=0
 ·have he:=L8 name m j h0 hj
  rw[he] at hl;have hk:=GR hl;rw[he,h0];have hq:okS (qy name m):=by unfold okS;omega
  (refine zW qw (z1 (iC (qy name m) hq)) @hk (z2 ?_ ?_)<;>(repeat with_reducible intro hc))
  ·rw[Fk hm (by rw[hc];decide)];exact zEe @hk
  ·rw[Ep hm hc];exact zEe @hk
 have hj10:j<10:=by
  refine Nat.lt_of_le_of_ne hj fun e=>h0 ?_
  subst e;exact Vu (by omega)
 have hd:=(dig (m/10^j)).toNat_lt
 (refine zW qw zn (zx @DY (zx @Eh (zx @ve (zx @qB @T8)))) (z3 ?_ ?_ ?_)<;>(try with_reducible intro(K:ASt→Prop) hK)<;>(repeat with_reducible intro hc))
 all_goals first|omega|skip
 ·refine Zq (j+1) ?_
  rw[show((name.length:Int)+9-j).toNat=name.length+9-j from by omega,J1 name m j hj10,T4,←TX]
  (refine ax.same ?_;simp(disch:=omega) only[go_sem,aa,Ss])
  congr 2;omega
 all_goals exact absurd (Nat.le_zero.1 (Int.ofNat_le.1 hc)) h0
theorem lu(name:List UInt8)(n:Int)(hn:name.length≤1048576)(hi:okI n):ab prog [] 171 [S name,I n] (ret (.tup [S (dP name n).1,I (dP name n).2])):=by
 unfold okI at hi
 by_cases hb:n<0∨2147483647<n
 ·rw[BP hb]
  refine zJ func171 ntmps171 results171 ?_;simp only[go_sem]
  (refine zW qw zn Yj (z1 ?_)<;>(repeat with_reducible intro hc))
  all_goals first|omega|skip
  all_goals exact zEe Yj
 obtain⟨m,rfl⟩:=S1 (a:=n) (by omega);have hm:m≤2147483647:=by omega
 obtain⟨hdl,hdp⟩:=vS 9 m (by omega);refine zJ func171 ntmps171 results171 ?_;simp only[go_sem]
 (refine zW qw (z1 (kC m (by omega))) Yj (z1 ?_)<;>(repeat with_reducible intro hc))
 refine Xd (ι:=Nat) (fun j=>j≤10-(iA m).length) (fun j=>10-(iA m).length-j) [0] (fun j=>[(6,S (List.replicate j 48++iA m))]) 0 ?_ (by simp(disch:=omega) only[go_sem,aa,SI]) ?_
 ·omega
 intro j hj;have hl:(List.replicate j (48:UInt8)++iA m).length=j+(iA m).length:=by simp
 simp only[go_sem]
 by_cases h0:j=10-(iA m).length
 ·subst h0
  rw[hdp];have hkl:=px 10 m;have hq:okS (name++lM 10 m):=by unfold okS;rw[RL,px];omega
  (refine zW qw (z1 (ref_named_c (name++lM 10 m) hq)) @hkl (z2 ?_ ?_)<;>(repeat with_reducible intro hc))
  ·rw[Fk hm (by rw[show qy name m=name++lM 10 m from rfl,hc];decide)];exact zEe Yj
  ·rw[Ep hm hc];exact zEe @qy.eq_1
 (refine zW qw zn Yj (z1 ?_)<;>(repeat with_reducible intro hc))
 ·refine Zq (j+1) ?_
  exact zSm (zx @List.replicate_succ.{0} @List.cons_append.{0})
 all_goals(exfalso;omega)
theorem qWe1:Pls [XS [0,1,2,4] (.fork 3 (XS [5,6,7] .done) 5 (XS [3,6,7] .done))]:=pls _
theorem qWe3:Pls [XS [0,1,2,3,5] (.fork 4 (XS [6,7,8] .done) 6 (XS [4,7,8] .done))]:=pls _
def byteAt(k:Nat)(v:Int):UInt8:=UInt8.ofNat ((v/2^(8*k))%256).toNat
def beB:Nat→Int→List UInt8
 |0,_=>[]
 |n+1,v=>byteAt n v::beB n v
theorem beB_len(v:Int):∀ n,(beB n v).length=n
 |0=>rfl
 |n+1=>by rw[beB,RQ,beB_len v n]
theorem vI(v:Int):∀(n j:Nat),j<n→(beB n v).take (n-j)=(beB n v).take (n-(j+1))++[byteAt j v]
 |0,j,h=>by omega
 | n + 1,j,h=>by
   by_cases e:j=n
   ·subst e
    rw[show j+1-j=1 from by omega,Ty];rfl
   ·rw[beB,show n+1-j=(n-j)+1 from by omega,show n+1-(j+1)=(n-(j+1))+1 from by omega,Tl,Tl,vI v n j (by omega)];rfl
theorem Ml(x:Int):IntKind.u8.wrap x=((UInt8.ofNat (x%256).toNat).toNat:Int):=by rw[UO];simp[IntKind.wrap,IntKind.bits,IntKind.signed];omega
theorem pN(j:Nat)(v:Int):IntKind.u8.wrap (v/2^(8*j))=((byteAt j v).toNat:Int):=Ml _
theorem Gb(l:List UInt8)(v:Int)(n:Nat)(hn:n≤8)(hl:l.length≤1048576):ab prog [.rows 1 (l.map aL)] 257 [.osl 0 1 0 l.length,I v,I n] (dr (.osl 1 1 0 (l.length+n)) [.dead,.rows 1 ((l++beB n v).map aL)]):=by
 refine zJ func257 ntmps257 results257 ?_;simp only[go_sem];refine Xa (XI 0 rfl rfl (by simp)) ?_;simp only[go_sem];refine zW qw zn Yj (z1 ?_);refine W9 (ι:=Nat) (fun j=>j≤n) (fun j=>j) [1] (fun j=>[(0,.osl 1 1 0 (l.length+(n-j))),(7,I ((j:Int)-1))]) (fun j=>[.dead,.rows 1 ((l++(beB n v).take (n-j)).map aL)]) n ?_ ?_ ?_
 ·omega
 ·simp only[go_sem,Ty,Tf,Se,S8];exact zSm Yj
 intro j hj;rcases j with _|j
 ·simp only[go_sem]
  refine zW qw zn Yj (z1 (fun hc=>?_));rw[Sg,RK (by rw[beB_len];omega)]
  (refine zOp Yj ?_;simp(disch:=omega) only[go_sem,aa];refine Xc ?_ (af.same ⟨rfl,rfl⟩);refine zV [0,1] rfl rfl rfl rfl ?_ ?_<;>simp(disch:=omega) only[go_sem,aa,UC,UD])
 rw[show((j+1:Nat):Int)-1=j from by omega];simp only[go_sem];have hw:IntKind.u64.wrap (8*(j:Int))=8*j:=by simp[IntKind.wrap,IntKind.bits,IntKind.signed];omega
 have hw2:(8*(j:Int)).toNat=8*j:=by omega
 have hle:(l++(beB n v).take (n-(j+1))).length=l.length+(n-(j+1)):=by rw[RL,RV,beB_len];omega
 have hk:List.take (l.length+(n-(j+1))) ((l++(beB n v).take (n-(j+1))).map aL)=(l++(beB n v).take (n-(j+1))).map aL:=RK (by rw[RO];omega)
 (refine zW qw zn (zx @hw (zx @hw2 @hk)) (z2 ?_ ?_)<;>(repeat with_reducible intro hc))
 ·simp[beB_len]
 refine Zq j ?_;rw[vI v n j (by omega),←Sq,Sn (l₁:=l++_),show n-j=n-(j+1)+1 from by omega];exact zFr [0,3] (zx @hw (zx @hw2 (zx @hk (zx @pN (zx @List.map_cons.{0,0} (zx @List.map_nil.{0,0} (zx @aL.eq_1 @SX)))))))
theorem xW(v:Int)(n:Nat)(hn:n≤8):ab prog [] 257 [.d (.sc (.slice none 0 0)),I v,I n] (dr (.osl 0 1 0 n) [.rows 1 ((beB n v).map aL)]):=by
 refine zJ func257 ntmps257 results257 ?_;simp only[go_sem];refine Xa (Xf 0 1 rfl) ?_;simp only[go_sem];refine zW qw zn Yj (z1 ?_);refine W9 (ι:=Nat) (fun j=>j≤n) (fun j=>j) [1] (fun j=>[(0,.osl 0 1 0 (n-j)),(7,I ((j:Int)-1))]) (fun j=>[.rows 1 (((beB n v).take (n-j)).map aL)]) n ?_ ?_ ?_
 ·omega
 ·simp only[go_sem,Ty,Tf,TV];exact zSm Yj
 intro j hj;rcases j with _|j
 ·simp only[go_sem]
  refine zW qw zn Yj (z1 (fun hc=>?_));rw[Sg,RK (by rw[beB_len];omega)]
  (refine zOp Yj ?_;simp(disch:=omega) only[go_sem,aa];refine Xc ?_ (af.same ⟨rfl,rfl⟩);refine zV [0] rfl rfl rfl rfl ?_ ?_<;>simp(disch:=omega) only[go_sem,aa,UC,UD])
 rw[show((j+1:Nat):Int)-1=j from by omega];simp only[go_sem];have hw:IntKind.u64.wrap (8*(j:Int))=8*j:=by simp[IntKind.wrap,IntKind.bits,IntKind.signed];omega
 have hw2:(8*(j:Int)).toNat=8*j:=by omega
 have hk:List.take (n-(j+1)) (((beB n v).take (n-(j+1))).map aL)=((beB n v).take (n-(j+1))).map aL:=RK (by rw[RO,RV];omega)
 (refine zW qw zn (zx @hw (zx @hw2 @hk)) (z2 ?_ ?_)<;>(repeat with_reducible intro hc))
 ·simp[beB_len]
 refine Zq j ?_;rw[vI v n j (by omega),Sn,show n-j=n-(j+1)+1 from by omega];exact zFr [2] (zx @hw (zx @hw2 (zx @hk (zx @pN (zx @List.map_cons.{0,0} (zx @List.map_nil.{0,0} (zx @aL.eq_1 @SX)))))))
theorem put_own_at(l:List UInt8)(v:Int)(n m k:Nat)(ni:Int)(hn:n≤8)(hl:l.length≤1048576)(hm:l.length=m)(hk:m+n=k)(hi:ni=n):ab prog [.rows 1 (l.map aL)] 257 [.osl 0 1 0 m,I v,I ni] (dr (.osl 1 1 0 k) [.dead,.rows 1 ((l++beB n v).map aL)]):=by subst hm;subst hk;subst hi;exact Gb l v n hn hl
theorem Fa(v:Int):IntKind.u8.wrap v=((byteAt 0 v).toNat:Int):=by rw[←pN 0 v];simp
def b5(t:ATxn):List UInt8:=(beB 8 t.zxid++[byteAt 0 t.op])++beB 4 t.session
def b6(t:ATxn):List UInt8:=(b5 t++beB 4 t.version)++beB 4 t.owner
def b7(t:ATxn):List UInt8:=(b6 t++[byteAt 0 t.path.length])++t.path
def bE(t:ATxn):List UInt8:=(b7 t++beB 2 t.data.length)++t.data
theorem oT(t:ATxn):(b5 t).length=13:=by simp[b5,beB_len]
theorem rx(t:ATxn):(b6 t).length=21:=by simp[b6,oT,beB_len]
theorem oL(t:ATxn):(b7 t).length=22+t.path.length:=by simp[b7,rx];omega
theorem fZ(t:ATxn):(bE t).length=24+t.path.length+t.data.length:=by simp[bE,oL,beB_len];omega
def dv(t:ATxn):List UInt8:=([84]++beB 2 (bE t).length)++bE t
theorem gJ(t:ATxn):(dv t).length=27+t.path.length+t.data.length:=by unfold dv;simp only[RL,fZ,beB_len,RQ,Sd];omega
def pZ(t:ATxn):List UInt8:=dv t++beB 4 (ma (dv t))
theorem fV{t:ATxn}(h:aT t=0):t.path.length≤200∧t.data.length≤256:=by
 unfold aT at h;split at h
 ·cases h
 split at h
 ·cases h
 split at h
 ·cases h
 split at h
 ·cases h
 rename_i h1 h2 h3 h4;refine⟨?_,by omega⟩;unfold wc at h4
 by_cases e2:t.op≤2
 ·rw[RJ e2] at h4;simp at h4;rw[h4.1];simp
 rw[RI e2] at h4
 have:br t.path=true:=by split at h4<;>(try split at h4)<;>simp at h4<;>exact h4.1
 exact nj this
def cE(t:ATxn):List UInt8×Int:=if aT t=0 then(pZ t,0) else([],aT t)
theorem uJ(t:ATxn)(hp:okS t.path)(hd:okS t.data):ab prog [] 228 [t.av] (ret (.tup [S (cE t).1,I (cE t).2])):=by
 refine zJ func228 ntmps228 results228 ?_;simp only[go_sem]
 by_cases g:aT t=0
 case neg=>
  unfold cE;rw[RI g];refine zW qw (z1 (sM t hp hd)) Yj (z1 (fun hc=>?_))
  all_goals first|omega|skip
  all_goals exact zEe Yj
 unfold cE;rw[RJ g];refine zW qw (z2 ((sM t hp hd).re (congrArg I g)) (xW t.zxid 8 (by decide))) Yj (z1 (fun hc=>?_));obtain⟨s1,s2⟩:=fV g;have l8:=beB_len t.zxid 8;have hh:okS (dv t):=by unfold okS dv;simp only[RL,fZ,beB_len,RQ,Sd];omega
 have tk24:List.take (24+t.path.length) (List.map aL (b7 t++beB 2 (t.data.length:Int)))=List.map aL (b7 t++beB 2 (t.data.length:Int)):=RK (by rw[RO,RL,oL,beB_len];omega);have hbr:List.map aL (bE t)=List.map aL (b7 t++beB 2 (t.data.length:Int))++List.map aL t.data:=by unfold bE;rw[Sn]
 have h84:(((84:UInt8).toNat:Nat):Int)=84:=rfl;have tk22:List.take 22 (List.map aL (b6 t)++[[DV.int IntKind.u8 ((byteAt 0 (t.path.length:Int)).toNat:Int)]])=List.map aL (b6 t)++[[DV.int IntKind.u8 ((byteAt 0 (t.path.length:Int)).toNat:Int)]]:=RK (by simp[rx]);have tk (l:List UInt8) (n:Nat) (h:l.length=n):List.take n (l.map aL)=l.map aL:=RK (by rw[RO];omega);refine Xb [1] [(5,.osl 1 1 0 13)] [.cells [I t.zxid,I t.op,I t.session,S t.path,S t.data,I t.version,I t.owner],.rows 1 ((b5 t).map aL)] ?_ ?_
 ·(repeat' first
|(with_reducible refine AR.f ?_)
|refine bH (by decide) ?_
|(with_reducible refine AWP.cond rfl ?_ ?_<;>intro hc<;>(try simp only[hcs,R1,Sa,Sb] at hc))
|((first|((first|refine zP ((XS [0,1,2,6] (.fork 3 (.fork 4 (.fork 5 (XS [7,8,9] .done) 7 (XS [5,8,9] .done)) 7 (XS [4,5,8,9] .done)) 7 (XS [3,4,5,8,9] .done)))) ?_|(with_reducible first|refine zR ?_|refine zQ ?_|refine zD ?_|refine zE ?_|refine zG ?_));intro K hK)|(refine acallH_own (put_own_at (beB 8 t.zxid++[byteAt 0 t.op]) t.session 4 9 13 4 (by decide) (by simp[beB_len]) (by simp[beB_len]) rfl rfl) ?_ ?_ ?_;(focus((try simp(disch:=omega) only[inj,Sk,Th,Sj,R6,RW,R5,Sr,go_sem,aa,tk _ _ l8,Sn,TL,TV,Fa,aL])<;>(try omega)<;>fail));(focus((try simp(disch:=omega) only[inj,Sk,Th,Sj,R6,RW,R5,Sr,go_sem,aa,tk _ _ l8,Sn,TL,TV,Fa,aL])<;>(try omega)<;>(try decide)<;>fail)))|((first|(with_reducible refine aunder_i ?_ ?_<;>intro hg)|with_reducible intro hg)<;>(first|(exfalso;simp at hg;done)|(have hg':=hg;(try simp only[hcs,R1,Sa,Sb] at hg');(try simp only[hg])))))<;>(try simp(disch:=omega) only[go_sem,aa,tk _ _ l8,Sn,TL,TV,Fa,aL])<;>(repeat' with_reducible refine Su ?_ ?_)<;>(try(with_reducible refine hK _ ?_;clear hK K)))
|omega)
  all_goals exact zFr [0,4] (zx @b5.eq_1 (zx @List.map_append.{0,0} (zx @List.map_cons.{0,0} (zx @List.map_nil.{0,0} @aL.eq_1))))
 simp only[go_sem];refine AWP.seq (Xb [1] [(5,.osl 1 1 0 21)] [.cells [I t.zxid,I t.op,I t.session,S t.path,S t.data,I t.version,I t.owner],.rows 1 ((b6 t).map aL)] ?_ ?_)
 ·refine zW qw (z3 qWe1 (ow (put_own_at (b5 t) t.version 4 13 17 4 (by decide) (by simp[oT]) (oT t) rfl rfl)) (ow (put_own_at (b5 t++beB 4 t.version) t.owner 4 17 21 4 (by decide) (by simp[oT,beB_len]) (by simp[oT,beB_len]) rfl rfl))) Yj (z2 ?_ ?_)
  all_goals exact zFr [0,3] @b6.eq_1
 simp only[go_sem];refine AWP.seq (Xb [1] [(5,.osl 1 1 0 (22+t.path.length))] [.cells [I t.zxid,I t.op,I t.session,S t.path,S t.data,I t.version,I t.owner],.rows 1 ((b7 t).map aL)] ?_ ?_)
 ·(repeat' first
|(with_reducible refine AR.f ?_)
|refine bH (by decide) ?_
|(with_reducible refine AWP.cond rfl ?_ ?_<;>intro hc<;>(try simp only[hcs,R1,Sa,Sb] at hc))
|((first|((first|refine zP ((XS [0,1,2,3,7] (.fork 4 (.fork 5 (.fork 6 (XS [8,9,10] .done) 8 (XS [6,9,10] .done)) 8 (XS [5,6,9,10] .done)) 8 (XS [4,5,6,9,10] .done)))) ?_|(with_reducible first|refine zR ?_|refine zQ ?_|refine zD ?_|refine zE ?_|refine zG ?_));intro K hK)|((first|(with_reducible refine aunder_i ?_ ?_<;>intro hg)|with_reducible intro hg)<;>(first|(exfalso;simp at hg;done)|(have hg':=hg;(try simp only[hcs,R1,Sa,Sb] at hg');(try simp only[hg])))))<;>(try simp(disch:=omega) only[go_sem,aa,tk _ _ (rx t),Fa])<;>(repeat' with_reducible refine Su ?_ ?_)<;>(try(with_reducible refine hK _ ?_;clear hK K)))
|omega)
  all_goals first|exact Ux (rx t).symm|omega|skip
  all_goals exact zFr [0,4] (zx @b7.eq_1 (zx @tk22 (zx @List.map_append.{0,0} (zx @List.map_cons.{0,0} (zx @List.map_nil.{0,0} @aL.eq_1)))))
 simp only[go_sem];refine AWP.seq (Xb [1] [(5,.osl 1 1 0 (bE t).length)] [.cells [I t.zxid,I t.op,I t.session,S t.path,S t.data,I t.version,I t.owner],.rows 1 ((bE t).map aL)] ?_ ?_)
 ·(refine zW qw (z2 qWe3 (ow (put_own_at (b7 t) t.data.length 2 (22+t.path.length) (24+t.path.length) 2 (by decide) (by rw[oL];omega) (oL t) (by omega) rfl))) @fZ (z3 ?_ ?_ ?_)<;>(try with_reducible intro(K:ASt→Prop) hK))
  all_goals first|exact Ux (by rw[oL,beB_len];omega)|skip
  all_goals exact zFr [0,3] (zx @fZ (zx @hbr @tk24))
 simp only[go_sem];have hB:=fZ t;have tk2:List.take 2 (List.map aL (beB 2 ((bE t).length:Int)))=List.map aL (beB 2 ((bE t).length:Int)):=RK (by rw[RO,beB_len];decide);have hH:[DV.int IntKind.u8 84]::(List.map aL (beB 2 ((bE t).length:Int))++List.map aL (bE t))=List.map aL (dv t):=by unfold dv;rw[Sn,Sn];rfl
 have tkH:List.take (3+(bE t).length) (List.map aL (dv t))=List.map aL (dv t):=RK (by rw[RO,dv,RL,RL,beB_len];simp);have tk4 (v:Int):List.take 4 (List.map aL (beB 4 v))=List.map aL (beB 4 v):=RK (by rw[RO,beB_len];decide)
 (refine zW qw (z3 (ow (put_own_at [84] (bE t).length 2 1 3 2 (by decide) (by decide) rfl rfl rfl)) (Oj (dv t) hh) (xW (ma (dv t)) 4 (by decide))) (zx @List.map_cons.{0,0} (zx @List.map_nil.{0,0} (zx @h84 (zx @tk2 (zx @hH (zx @tkH @tk4)))))) (zc ?_ (z4 ?_ ?_ ?_ ?_))<;>(repeat with_reducible intro hc))
 ·exact Ux (beB_len _ _).symm
 ·exact Ux (by rw[gJ];omega)
 ·exact Ux (beB_len _ _).symm
 ·rw[gJ,beB_len];omega
 ·exact zEe @pZ.eq_1
theorem HD(v:Int)(n:Nat)(hn:n≤8):ab prog [] 254 [I v,I n] (ret (S (beB n v))):=by
 refine zJ func254 ntmps254 results254 ?_;simp only[go_sem];refine zW qw zn Yj (z1 ?_);refine W9 (ι:=Nat) (fun j=>j≤n) (fun j=>n-j) [] (fun j=>[(0,I (v/2^(8*j))),(1,I ((n-j:Nat):Int)),(5,S (beB j v))]) (fun j=>[]) 0 ?_ ?_ ?_
 ·omega
 ·simp only[go_sem,Nat.mul_zero,Sg,beB,Int.pow_zero,Int.ediv_one];exact zSm Yj
 intro j hj;have hu:[DV.int IntKind.u8 ((byteAt j v).toNat:Int)]=aL (byteAt j v):=rfl;have ok1:x9 [[DV.int IntKind.u8 ((byteAt j v).toNat:Int)]]:=lg [byteAt j v];have hdiv:v/2^(8*j)/256=v/2^(8*(j+1)):=by rw[Int.ediv_ediv_of_nonneg (Int.pow_nonneg (by decide)),show(8*(j+1))=8*j+8 from by omega,Int.pow_add];rfl
 simp only[go_sem]
 (refine zW qw zn (zx @pN (zx @ok1 (zx @Ta (zx @T8 @hdiv)))) (z3 ?_ ?_ ?_)<;>(repeat with_reducible intro hc))
 ·rw[beB_len];omega
 ·refine Zq (j+1) ?_
  have hs:((n-j:Nat):Int)-1=((n-(j+1):Nat):Int):=by omega
  (refine zV [] rfl rfl rfl rfl ?_ ?_<;>simp(disch:=omega) only[go_sem,aa,Ss,pN,hdiv,beB,hs]<;>(try rfl))
 ·rw[show j=n from by omega]
  exact zEe Yj
theorem ew(v:Int)(n:Nat)(hn:n≤8)(ni:Int)(hi:ni=n):ab prog [] 254 [I v,I ni] (ret (S (beB n v))):=by subst hi;exact HD v n hn
theorem k9(t:ATxn)(hz:okI t.zxid)(hp:t.path.length≤1048576)(hd:okS t.data):ab prog [] 213 [t.av] (ret (.tup [S (cE t).1,I (cE t).2])):=by
 refine zJ func213 ntmps213 results213 ?_;simp only[go_sem]
 by_cases g:aT t=0
 case neg=>
  unfold cE;rw[RI g];refine zW qw (z1 (cZ t hz hp hd)) Yj (z1 (fun hc=>?_))
  all_goals first|omega|skip
  all_goals exact zEe Yj
 unfold cE;rw[RJ g];obtain⟨s1,s2⟩:=fV g;have hh:okS (dv t):=by unfold okS;rw[gJ];omega
 have hbody:beB 8 t.zxid++beB 1 t.op++beB 4 t.session++beB 4 t.version++beB 4 t.owner++beB 1 (t.path.length:Int)++t.path++beB 2 (t.data.length:Int)++t.data=bE t:=rfl;have hhead:[84]++beB 2 ((bE t).length:Int)++bE t=dv t:=rfl;have hhead2:84::(beB 2 ((bE t).length:Int)++bE t)=dv t:=rfl
 (refine zW qw (zc ((cZ t hz hp hd).re (congrArg I g)) (zc (ew t.zxid 8 (by decide) 8 rfl) (zc (ew t.op 1 (by decide) 1 rfl) (zc (ew t.session 4 (by decide) 4 rfl) (zc (ew t.version 4 (by decide) 4 rfl) (zc (ew t.owner 4 (by decide) 4 rfl) (zc (ew t.path.length 1 (by decide) 1 rfl) (z4 (ew t.data.length 2 (by decide) 2 rfl) (ew (bE t).length 2 (by decide) 2 rfl) (xe (dv t) hh) (ew (ma (dv t)) 4 (by decide) 4 rfl))))))))) (zx @hbody (zx @hhead @hhead2)) (zc ?_ (zc ?_ (zc ?_ (zc ?_ (zc ?_ (zc ?_ (zc ?_ (zc ?_ (z4 ?_ ?_ ?_ ?_)))))))))<;>(repeat with_reducible intro hc))
 all_goals first|(with_reducible refine R8 (m:=1000) ?_ (by decide);simp only[beB_len,fZ,gJ];omega)|skip
 exact zEe @pZ.eq_1
def aA(l:List ATxn):Int:=if l=[] then 0 else(l.getD (l.length-1) default).zxid
theorem gS:aA []=0:=rfl
theorem d5{l:List ATxn}(h:0<l.length):aA l=(l.getD (l.length-1) default).zxid:=by unfold aA;rw[RI (fun e=>by rw[e] at h;exact absurd h (by decide))]
theorem fO(l:List ATxn)(t:ATxn):aA (l++[t])=t.zxid:=by rw[d5 (by simp)];simp
theorem mX(l:List ATxn)(h:l.length*72≤140737488351232):ab prog [] 117 [.d (.sl 7 (l.map ATxn.row))] (ret (I (aA l))):=by
 refine zJ func117 ntmps117 results117 ?_;simp only[go_sem]
 (refine zW qw zn @ATxn.rgetD (z2 ?_ ?_)<;>(repeat with_reducible intro hc))
 ·have e:l=[]:=Sf (by omega)
  rw[e,gS];exact zEe Yj
 all_goals first|omega|skip
 rw[d5 (by omega)];have e:(((l.length:Int)-1).toNat)=l.length-1:=by omega
 (refine zE2 (zx @ATxn.rgetD @e) ?_;(try simp(disch:=omega) only[go_sem,aa,ATxn.rgetD,e,I,B,S,zj]))
 all_goals trace_state
theorem ref_last_c(l:List ATxn)(h:l.length*72≤140737488351232):ab prog [] 96 [.d (.sl 7 (l.map ATxn.row))] (ret (I (aA l))):=by
 refine zJ func96 ntmps96 results96 ?_;simp only[go_sem];refine zW qw zn Yj (z1 ?_);refine W9 (ι:=Nat) (fun k=>k≤l.length) (fun k=>l.length-k) [6,7] (fun k=>[(8,I k),(3,I (aA (l.take k)))]) (fun k=>[]) 0 ?_ ?_ ?_
 ·omega
 ·simp only[go_sem,gS];exact zSm Yj
 intro k hk;simp only[go_sem]
 (refine zW qw zn @ATxn.rgetD (z2 ?_ ?_)<;>(repeat with_reducible intro hc))
 ·refine Zq (k+1) ?_
  have e:l.take (k+1)=l.take k++[l.getD k default]:=aN l k (by assumption);rw[e,fO];exact zFr [] Yj
 ·rw[show k=l.length from by omega,R7];exact zEe Yj
theorem wY(a b:List ATxn)(h:a.length*72≤140737488351232)(h2:b.length*72≤140737488351232):ab prog [] 19 [.d (.sl 7 (a.map ATxn.row)),.d (.sl 7 (b.map ATxn.row))] (ret (B (decide (a=b)))):=by
 refine zJ func19 ntmps19 results19 ?_;simp only[go_sem]
 (refine zW qw zn Yj (z2 ?_ ?_)<;>(repeat with_reducible intro hc))
 ·(refine zE2 Yj ?_;(try simp(disch:=omega) only[go_sem,aa,I,B,S,zj]))
  symm;rw[RR];intro e;subst e;simp at hc
 have h3:=hc;refine Xd (ι:=Nat) (fun k=>k≤a.length∧∀ j,j<k→a.getD j default=b.getD j default) (fun k=>a.length-k) [0,1,12] (fun k=>[(13,I k)]) 0 ?_ (by simp(disch:=omega) only[go_sem,aa,SI]) ?_
 ·exact⟨by omega,by omega⟩
 intro k ⟨hk,hk2⟩;simp only[go_sem]
 (refine zW qw zn @ATxn.rgetD (z3 ?_ ?_ ?_)<;>(repeat with_reducible intro hc))
 ·(refine zE2 Yj ?_;(try simp(disch:=omega) only[go_sem,aa,I,B,S,zj]))
  symm;rw[RR];intro e;subst e;simp at hc
 ·refine⟨k+1,⟨by omega,fun j hj=>?_⟩,by omega,?_⟩
  ·by_cases e:j=k
   ·subst e;exact hc
   ·exact hk2 j (by omega)
  exact zSm Yj
 ·(refine zE2 Yj ?_;(try simp(disch:=omega) only[go_sem,aa,I,B,S,zj]))
  symm;rw[RN]
  exact fP (by omega) fun j hj=>hk2 j (by omega)
def gk(s:List UInt8):Nat→Nat→List ATxn→List ATxn×Nat
 |0,at_,l=>(l,at_)
 |f+1,at_,l=>if(cb (s.drop at_)).2.2≠0∨(0<l.length∧(cb (s.drop at_)).1.zxid≤aA l) then(l,at_) else gk s f (at_+(cb (s.drop at_)).2.1.toNat) (l++[(cb (s.drop at_)).1])
def scanT(s:List UInt8):List ATxn×Nat:=gk s (s.length+1) 0 []
theorem jy(s:List UInt8):((cb s).2.2≠0∧(cb s).2.1=0)∨((cb s).2.2=0∧(cb s).2.1=((sN s+7:Nat):Int)∧sN s+7≤s.length∧sN s≤1024∧aT (cb s).1=0):=by
 by_cases h1:dx s
 ·rw[qV h1];left;simp
 by_cases h2:dT s
 ·rw[u5 h1 h2];left;simp
 by_cases h3:gH s
 ·rw[zt h1 h2 h3];left;simp
 by_cases h4:dH (sB s)
 case neg=>rw[qE h1 h2 h3 h4];left;simp
 by_cases h5:aT (dV (sB s))=0
 ·rw[u4 h1 h2 h3 h4 h5];right
  unfold dT at h2;exact⟨rfl,rfl,by omega,by omega,h5⟩
 ·rw[z8 h1 h2 h3 h4 h5];left;exact⟨h5,rfl⟩
theorem fN{s:List UInt8}{f at_:Nat}{l:List ATxn}(h:(cb (s.drop at_)).2.2≠0∨(0<l.length∧(cb (s.drop at_)).1.zxid≤aA l)):gk s f at_ l=(l,at_):=by
 cases f with
 |zero=>rfl
 |succ f=>rw[gk,RJ h]
theorem Gk{s:List UInt8}{f at_:Nat}{l:List ATxn}(h:s.length≤at_):gk s f at_ l=(l,at_):=
 fN (.inl (by rw[qV (.inl (by rw[RZ];omega))];decide))
theorem gI{s:List UInt8}{f at_ n:Nat}{l:List ATxn}(h1:(cb (s.drop at_)).2.2=0)(h2:¬ (0<l.length∧(cb (s.drop at_)).1.zxid≤aA l))(hn:(cb (s.drop at_)).2.1=(n:Int)):gk s (f+1) at_ l=gk s f (at_+n) (l++[(cb (s.drop at_)).1]):=by rw[gk,RI (by rintro(h|h);exact h h1;exact h2 h),hn];rfl
theorem OH(s:List UInt8)(hs:s.length≤1048576):ab prog [] 84 [S s] (ret (.tup [.d (.sl 7 ((scanT s).1.map ATxn.row)),I (scanT s).2])):=by
 refine zJ func84 ntmps84 results84 ?_;simp only[go_sem];refine zW qw zn Yj (z1 ?_);refine Xa (Xf 4 7 rfl) ?_;simp only[go_sem];refine W9 (ι:=Nat×Nat×List ATxn) (fun v=>v.2.1≤s.length∧s.length<v.2.1+v.1∧v.2.2.length≤v.2.1∧gk s v.1 v.2.1 v.2.2=scanT s) (fun v=>v.1) [0] (fun v=>[(5,I v.2.1),(4,.osl 0 7 0 v.2.2.length)]) (fun v=>[.rows 7 (v.2.2.map ATxn.row)]) (s.length+1,0,[]) ?_ ?_ ?_
 ·exact⟨by simp,by simp,by simp,rfl⟩
 ·simp only[go_sem];exact zSm Yj
 intro⟨f,k,l⟩ ⟨h1,h2,h3,h4⟩;simp only at h1 h2 h3 h4;simp only[go_sem];have ed:List.take (s.length-k) (List.drop k s)=List.drop k s:=RK (by rw[RZ];omega)
 (repeat' first
|(with_reducible refine AR.f ?_)
|refine bH (by decide) ?_
|(with_reducible refine AWP.cond rfl ?_ ?_<;>intro hc<;>(try simp only[hcs,R1,Sa,Sb] at hc))
|((first|((first|(with_reducible first|refine zR ?_|refine zQ ?_|refine zD ?_|refine zE ?_|refine zG ?_));intro K hK)|((first|refine zA (decode_c (s.drop k) (by rw[RZ];omega)) ?_ ?_ ?_ ?_ ?_|refine zA (mX l (by omega)) ?_ ?_ ?_ ?_ ?_);(focus exact rfl);(focus exact rfl);iterate 2 (focus((try simp(disch:=omega) only[go_sem,aa,ed,ay,ATxn.rsnoc])<;>(try omega)<;>fail)))|((first|refine zN (decode_c (s.drop k) (by rw[RZ];omega)) rfl ?_ ?_|refine zX (decode_c (s.drop k) (by rw[RZ];omega)) rfl ?_ ?_|refine zY (decode_c (s.drop k) (by rw[RZ];omega)) ?_ ?_|refine zX (mX l (by omega)) rfl ?_ ?_);(focus((try simp(disch:=omega) only[go_sem,aa,ed,ay,ATxn.rsnoc])<;>(try omega)<;>fail)))|((first|(with_reducible refine aunder_i ?_ ?_<;>intro hg)|with_reducible intro hg)<;>(first|(exfalso;simp at hg;done)|(have hg':=hg;(try simp only[hcs,R1,Sa,Sb] at hg');(try simp only[hg])))))<;>(try simp(disch:=omega) only[go_sem,aa,ed,ay,ATxn.rsnoc])<;>(repeat' with_reducible refine Su ?_ ?_)<;>(try(with_reducible refine hK _ ?_;clear hK K)))
|omega)
 ·rw[←h4,fN (hc.imp id fun h=>⟨by omega,h.2⟩)];exact zEe Yj
 ·rcases jy (s.drop k) with⟨q,_⟩|⟨q1,q2,q3,q4,_⟩
  ·exact absurd hc.1 q
  rw[RZ] at q3;have q5:=gI (s:=s) (f:=f-1) (at_:=k) (n:=sN (s.drop k)+7) (l:=l) q1 (fun h=>by omega) q2;rw[show f-1+1=f from by omega] at q5;refine⟨(f-1,k+(sN (s.drop k)+7),l++[(cb (s.drop k)).1]),⟨by simp only;omega,by simp only;omega,by simp;omega,q5.symm.trans h4⟩,by simp only;omega,?_⟩;exact zFr [3] (zx @q2 (zx @List.length_append.{0} @ATxn.rsnoc))
 ·have hx:(cb (s.drop k)).2.2≠0∨(0<l.length∧(cb (s.drop k)).1.zxid≤aA l):=by
   by_cases e:(cb (s.drop k)).2.2=0
   ·rcases hc with h|h
    ·exact .inl h
    ·rw[e] at hg;simp at hg;omega
   ·exact .inl e
  rw[←h4,fN hx];exact zEe Yj
 ·rcases jy (s.drop k) with⟨q,_⟩|⟨q1,q2,q3,q4,_⟩
  ·exact absurd hc.1 q
  have hl0:l.length=0:=by rw[q1] at hg;simp at hg;rw[hg];rfl
  rw[RZ] at q3;have q5:=gI (s:=s) (f:=f-1) (at_:=k) (n:=sN (s.drop k)+7) (l:=l) q1 (fun h=>by omega) q2;rw[show f-1+1=f from by omega] at q5;refine⟨(f-1,k+(sN (s.drop k)+7),l++[(cb (s.drop k)).1]),⟨by simp only;omega,by simp only;omega,by simp;omega,q5.symm.trans h4⟩,by simp only;omega,?_⟩;exact zFr [3] (zx @q2 (zx @List.length_append.{0} @ATxn.rsnoc))
 ·rw[←h4,Gk (by omega)];exact zEe Yj
 all_goals trace_state
theorem Dz{s:List UInt8}(h:(cb s).2.2≠0):scanT s=([],0):=fN (.inl h)
theorem CH{s:List UInt8}{n:Nat}(h:(cb s).2.2=0)(hn:(cb s).2.1=(n:Int)):gk s s.length n [(cb s).1]=scanT s:=by have:=gI (s:=s) (f:=s.length) (at_:=0) (n:=n) (l:=[]) (by rw[Tw];exact h) (by simp) (by rw[Tw];exact hn);rw[Tw,SO,Sx] at this;exact this.symm
theorem DI(s:List UInt8)(hs:s.length≤1048576):ab prog [] 148 [S s] (ret (.tup [.d (.sl 7 ((scanT s).1.map ATxn.row)),I (scanT s).2])):=by
 refine zJ func148 ntmps148 results148 ?_;simp only[go_sem]
 (refine zW qw (z1 (pQ s hs)) Yj (z2 ?_ ?_)<;>(repeat with_reducible intro hc))
 ·rw[Dz hc];exact zEe Yj
 rcases jy s with⟨q,_⟩|⟨q1,q2,q3,q4,_⟩
 ·exact absurd hc q
 refine W9 (ι:=Nat×Nat×List ATxn×ATxn) (fun v=>v.2.1≤s.length∧s.length<v.2.1+v.1∧v.2.2.1.length≤v.2.1∧0<v.2.2.1.length∧gk s v.1 v.2.1 v.2.2.1=scanT s) (fun v=>v.1) [0,4] (fun v=>[(8,I v.2.1),(7,.osl 1 7 0 v.2.2.1.length)]) (fun v=>[.cells [I v.2.2.2.zxid,I v.2.2.2.op,I v.2.2.2.session,S v.2.2.2.path,S v.2.2.2.data,I v.2.2.2.version,I v.2.2.2.owner],.rows 7 (v.2.2.1.map ATxn.row)]) (s.length,sN s+7,[(cb s).1],(cb s).1) ?_ ?_ ?_
 ·exact⟨q3,by simp only;omega,by simp,by simp,CH q1 q2⟩
 ·simp only[go_sem,q2];exact zSm Yj
 intro⟨f,k,l,t⟩ ⟨h1,h2,h3,h5,h4⟩;simp only at h1 h2 h3 h4 h5;simp only[go_sem];have ed:List.take (s.length-k) (List.drop k s)=List.drop k s:=RK (by rw[RZ];omega);have el:((l.length:Int)-1).toNat=l.length-1:=by omega
 have lz:=(d5 h5).symm
 (refine zW qw (z1 (pQ (s.drop k) (by rw[RZ];omega))) (zx @ed (zx @ay (zx @ATxn.rsnoc (zx @ATxn.rgetD (zx @el @lz))))) (z2 ?_ ?_)<;>(repeat with_reducible intro hc))
 ·rw[←h4,fN (hc.imp id fun h=>⟨h5,h⟩)];exact zEe Yj
 ·rcases jy (s.drop k) with⟨q,_⟩|⟨q1,q2,q3,q4,_⟩
  ·exact absurd hc.1 q
  rw[RZ] at q3;have q5:=gI (s:=s) (f:=f-1) (at_:=k) (n:=sN (s.drop k)+7) (l:=l) q1 (fun h=>by omega) q2;rw[show f-1+1=f from by omega] at q5;refine⟨(f-1,k+(sN (s.drop k)+7),l++[(cb (s.drop k)).1],(cb (s.drop k)).1),⟨by simp only;omega,by simp only;omega,by simp;omega,by simp,q5.symm.trans h4⟩,by simp only;omega,?_⟩;exact zFr [0,3] (zx @q2 (zx @List.length_append.{0} @ATxn.rsnoc))
def t1:ATxn:=⟨1,1,1,[],[],0,0⟩
theorem w9(s:List UInt8):∀(f at_:Nat) (l:List ATxn),(gk s f at_ l).1.length≤l.length+f
 |0,_,l=>RP _
 | f + 1,at_,l=>by
   rw[gk];split
   ·simp
   ·have:=w9 s f (at_+(cb (s.drop at_)).2.1.toNat) (l++[(cb (s.drop at_)).1])
    rw[RL,Sv] at this;omega
theorem yc(s:List UInt8):(scanT s).1.length≤s.length+1:=by have:=w9 s (s.length+1) 0 [];simpa[scanT] using this
def logN:List UInt8:=[108,111,103]
theorem gA:okS logN:=by unfold okS;decide
theorem cM{l:List AFile}{key s:List UInt8}(hk:okS key)(hw:∀ f,f∈l→f.wf):∀ f,f∈(aD l key s).1.files→f.wf:=by
 intro f hf;unfold aD at hf;split at hf
 ·cases hf
 ·split at hf
  ·cases hf
  ·split at hf
   ·split at hf
    ·cases hf
    ·obtain⟨g1,g2,g3,g4⟩:=eL hw (place (l.map AFile.name) key)
     rcases Td hf with h|h
     ·exact hw f h
     ·subst h
      exact⟨g1,g3,by show okS _;unfold okS;rw[RL];omega⟩
   ·split at hf
    ·cases hf
    ·split at hf
     ·cases hf
     ·rename_i h1
      have hf':f∈l.insertIdx (place (l.map AFile.name) key) ⟨key,[],s⟩:=hf;rw[T0 iT] at hf';rcases hf' with h|h
      ·subst h;exact⟨hk,by show okS [];unfold okS;decide,by show okS s;unfold okS;omega⟩
      ·exact hw f h
def cI(l:List AFile)(t:ATxn)(safe:Bool):X4×Int:=
 if aT t≠0 then(default,aT t)
 else if(aD l logN (cE t).1).2≠0∨safe=false then aD l logN (cE t).1 else bo (aD l logN (cE t).1).1.files logN lT
theorem FI{l:List AFile}{t:ATxn}{safe:Bool}:(cI l t safe).1.files.length*48≤140737488351232:=by
 unfold cI;split
 ·exact(by decide:([]:List AFile).length*48≤140737488351232)
 ·split
  ·exact hI
  ·exact xr hI
theorem sJ{t:ATxn}(h:aT t=0):okS (cE t).1∧(cE t).2=0:=by obtain⟨s1,s2⟩:=fV h;unfold cE;rw[RJ h];refine⟨?_,rfl⟩;unfold okS pZ;simp only[RL,gJ,beB_len];omega
theorem Fj{t:ATxn}(h:aT t≠0):cE t=([],aT t):=by unfold cE;rw[RI h]
theorem HQ(d:X4)(t:ATxn)(safe:Bool)(h:d.files.length*48≤140737488351232)(hw:∀ f,f∈d.files→f.wf)(hp:okS t.path)(hd:okS t.data):ab prog [] 177 [d.av,t.av,B safe] (ret (.tup [(cI d.files t safe).1.av,I (cI d.files t safe).2])):=by
 by_cases hg:aT t=0
 case neg=>
  have he:=uJ t hp hd;rw[Fj hg] at he;unfold cI;rw[RJ hg];refine zJ func177 ntmps177 results177 ?_;simp only[go_sem]
  (refine zW qw (z1 he) Yj (z1 ?_)<;>(repeat with_reducible intro hc))
  all_goals try exact zk1
  exact zEe dfl
 obtain⟨e1,e2⟩:=sJ hg;have he:=uJ t hp hd;rw[e2] at he;unfold cI;rw[RI (fun h=>h hg)];have hs:=L5 (aD d.files logN (cE t).1).1 logN hI (cM gA hw);refine zJ func177 ntmps177 results177 ?_;simp only[go_sem]
 (refine zW qw (z3 he (zb d logN (cE t).1 e1 gA h hw) hs) @logN.eq_1 (z2 ?_ ?_)<;>(repeat with_reducible intro hc))
 ·have hc':(aD d.files logN (cE t).1).2≠0∨safe=false:=hc
  rw[RJ hc'];exact zEe @logN.eq_1
 ·have hc':¬ ((aD d.files logN (cE t).1).2≠0∨safe=false):=fun h=>by rcases h with h|h;exact h hc.1;rw[hc.2] at h;cases h
  rw[RI hc'];exact zEe @logN.eq_1
theorem zz(d:X4)(t:ATxn)(safe:Bool)(h:d.files.length*48≤140737488351232)(hw:∀ f,f∈d.files→f.wf)(hz:okI t.zxid)(hp:t.path.length≤1048576)(hd:okS t.data):ab prog [] 173 [d.av,t.av,B safe] (ret (.tup [(cI d.files t safe).1.av,I (cI d.files t safe).2])):=by
 by_cases hg:aT t=0
 case neg=>
  have he:=k9 t hz hp hd;rw[Fj hg] at he;unfold cI;rw[RJ hg];refine zJ func173 ntmps173 results173 ?_;simp only[go_sem]
  (refine zW qw (z1 he) Yj (z1 ?_)<;>(repeat with_reducible intro hc))
  all_goals try exact zk1
  exact zEe dfl
 obtain⟨e1,e2⟩:=sJ hg;have he:=k9 t hz hp hd;rw[e2] at he;unfold cI;rw[RI (fun h=>h hg)];have hs:=tN (aD d.files logN (cE t).1).1 logN hI (cM gA hw);refine zJ func173 ntmps173 results173 ?_;simp only[go_sem]
 (refine zW qw (z3 he (mo d logN (cE t).1 e1 gA h hw) hs) @logN.eq_1 (z2 ?_ ?_)<;>(repeat with_reducible intro hc))
 ·have hc':(aD d.files logN (cE t).1).2≠0∨safe=false:=hc
  rw[RJ hc'];exact zEe @logN.eq_1
 ·have hc':¬ ((aD d.files logN (cE t).1).2≠0∨safe=false):=fun h=>by rcases h with h|h;exact h hc.1;rw[hc.2] at h;cases h
  rw[RI hc'];exact zEe @logN.eq_1
theorem Hr(l:List UInt8):∀ a:Nat,l.foldl (fun v (x:UInt8)=>v*256+x.toNat) a=a*256^l.length+numN l:=by
 induction l with
 |nil=>intro a;simp[numN]
 | cons x l ih=>
   intro a;unfold numN;rw[Uu,Uu,ih,ih,RQ,T4]
   have:(a*256+x.toNat)*256^l.length=a*(256^l.length*256)+x.toNat*256^l.length:=by rw[Sz,Nat.mul_assoc,Wp 256 (256^l.length)]
   rw[this,Nat.zero_mul,SO,SX]
theorem qL(x:UInt8)(l:List UInt8):numN (x::l)=x.toNat*256^l.length+numN l:=by unfold numN;rw[Uu,Hr,Nat.zero_mul,SO];rfl
theorem un:∀ l:List UInt8,numN l<256^l.length
 |[]=>by simp[numN]
 | x::l=>by
   have h:=un l;have hx:=x.toNat_lt;rw[qL,RQ,T4]
   have:x.toNat*256^l.length≤255*256^l.length:=Sc _ (by omega);omega
theorem QE(n:Nat):(2:Int)^(8*n)=((256^n:Nat):Int):=by rw[Int.pow_mul];simp
theorem tB:∀(l:List UInt8) (k:Int),beB l.length ((numN l:Int)+(256^l.length:Nat)*k)=l
 |[],_=>rfl
 | x :: l,k=>by
   have hb:=un l;have hx:=x.toNat_lt;rw[RQ,beB]
   have e:((numN (x::l):Nat):Int)+((256^(l.length+1):Nat):Int)*k=(numN l:Int)+((256^l.length:Nat):Int)*(x.toNat+256*k):=by
    rw[qL,T4,Ss,WB,WB,Int.mul_add,Int.mul_comm (x.toNat:Int),Int.mul_assoc];generalize ((256^l.length:Nat):Int)*_=a;simp only[Vf] at *
    omega
   rw[e,tB l _];congr 1;unfold byteAt
   rw[QE,Int.add_mul_ediv_left _ _ (by have:0<256^l.length:=Nat.pow_pos (by decide)
                                       omega),Int.ediv_eq_zero_of_lt (by omega) (by omega),Int.zero_add]
   rw[show((x.toNat:Int)+256*k)%256=x.toNat from by omega,Ta,T8]
theorem w8(l:List UInt8)(n:Nat)(h:l.length=n):beB n (numN l:Nat)=l:=by
 subst h
 have:=tB l 0;rwa[Int.mul_zero,Wv] at this
theorem LF(l:List UInt8):∃ k:Int,kL l=(numN l:Int)+18446744073709551616*k:=by
 generalize hn:l.length=n
 induction n generalizing l with
 |zero=>rw[Vg.1 hn];exact⟨0,rfl⟩
 | succ n ih=>
   have e:l=l.take (n+1):=by rw[←hn,R7]
   obtain⟨k,hk⟩:=ih (l.take n) (by rw[RV];omega);have h1:=nP l n (by omega);have h2:=ya l n (by omega);rw[←e] at h1 h2;rw[h1,h2,hk,eG];refine⟨(((numN (l.take n):Int)+18446744073709551616*k)*256+(l.getD n 0).toNat-(numN (l.take n)*256+(l.getD n 0).toNat:Nat)-18446744073709551616*((((numN (l.take n):Int)+18446744073709551616*k)*256+(l.getD n 0).toNat+9223372036854775808)/18446744073709551616))/18446744073709551616,?_⟩;omega
theorem Qs(l:List UInt8)(h:l.length=8):beB 8 (kL l)=l:=by
 obtain⟨k,hk⟩:=LF l
 have:=tB l k;rw[h] at this;rw[hk];exact this
theorem vQ(x:UInt8):byteAt 0 (x.toNat:Int)=x:=by have h:=x.toNat_lt;unfold byteAt;simp only[Nat.mul_zero,Int.pow_zero,Int.ediv_one];rw[show((x.toNat:Int))%256=x.toNat from by omega,Ta,T8]
theorem xy{b:List UInt8}(h:dH b):bE (dV b)=b:=by
 unfold dH at h;have l1:(b.take 8).length=8:=by rw[RV];omega
 have l2:((b.drop 9).take 4).length=4:=by rw[RV,RZ];omega
 have l3:((b.drop 13).take 4).length=4:=by rw[RV,RZ];omega
 have l4:((b.drop 17).take 4).length=4:=by rw[RV,RZ];omega
 have l5:((b.drop 22).take (bP b)).length=bP b:=by rw[RV,RZ];omega
 have l6:((b.drop (22+bP b)).take 2).length=2:=by rw[RV,RZ];omega
 have l7:(b.drop (24+bP b)).length=bD b:=by rw[RZ];omega
 unfold bE b7 b6 b5 dV;simp only[l5,l7];rw[Qs _ l1,w8 _ 4 l2,w8 _ 4 l3,w8 _ 4 l4,vQ];rw[show((bP b:Nat):Int)=((b.getD 21 0).toNat:Int) from rfl,vQ];rw[show bD b=numN ((b.drop (22+bP b)).take 2) from rfl,w8 _ 2 l6];have one (k:Nat) (hk:k<b.length):[b.getD k 0]=(b.drop k).take 1:=by rw[S7 hk,RG,RH hk];rfl
 rw[one 8 (by omega),one 21 (by omega)];have j (m n k:Nat) (hk:m+n=k):b.take m++(b.drop m).take n=b.take k:=by subst hk;exact Wb.symm
 rw[j 8 1 9 rfl,j 9 4 13 rfl,j 13 4 17 rfl,j 17 4 21 rfl,j 21 1 22 rfl,j 22 (bP b) (22+bP b) rfl,j (22+bP b) 2 (24+bP b) (by omega),SN]
theorem Be{s:List UInt8}(h:(cb s).2.2=0):¬ dx s∧¬ dT s∧¬ gH s∧dH (sB s)∧aT (dV (sB s))=0:=by
 by_cases h1:dx s
 ·rw[qV h1] at h;cases h
 by_cases h2:dT s
 ·rw[u5 h1 h2] at h;cases h
 by_cases h3:gH s
 ·rw[zt h1 h2 h3] at h;cases h
 by_cases h4:dH (sB s)
 case neg=>rw[qE h1 h2 h3 h4] at h;cases h
 by_cases h5:aT (dV (sB s))=0
 ·exact⟨h1,h2,h3,h4,h5⟩
 ·rw[z8 h1 h2 h3 h4 h5] at h;exact absurd h h5
theorem LH{s:List UInt8}(h:(cb s).2.2=0):cE (cb s).1=(s.take (sN s+7),0):=by
 obtain⟨h1,h2,h3,h4,h5⟩:=Be h;rw[u4 h1 h2 h3 h4 h5];unfold dx at h1;unfold dT at h2;unfold gH at h3;have h3':numN ((s.drop (sN s+3)).take 4)=ma (s.take (sN s+3)):=Sh h3;have h84:s.getD 0 0=84:=Sh fun e=>h1 (.inr e)
 have hl:((bE (dV (sB s))).length:Int)=(sN s:Nat):=by rw[xy h4];unfold sB;rw[RV,RZ];omega
 have l2:((s.drop 1).take 2).length=2:=by rw[RV,RZ];omega
 have l4:((s.drop (sN s+3)).take 4).length=4:=by rw[RV,RZ];omega
 have one:[(84:UInt8)]=s.take 1:=by
  rw[←h84,RG,RH (by omega)];rcases s with _|⟨x,s⟩
  ·simp at h1
  ·rfl
 have j (m n k:Nat) (hk:m+n=k):s.take m++(s.drop m).take n=s.take k:=by subst hk;exact Wb.symm
 have hh:dv (dV (sB s))=s.take (sN s+3):=by unfold dv;rw[hl,xy h4,one,show sN s=numN ((s.drop 1).take 2) from rfl,w8 _ 2 l2,j 1 2 3 rfl];exact j 3 _ _ (by rw[TS];rfl)
 unfold cE;rw[RJ h5];unfold pZ;rw[hh,←h3',w8 _ 4 l4,j (sN s+3) 4 (sN s+7) rfl]
def encs(l:List ATxn):List UInt8:=(l.map fun t=>(cE t).1).flatten
theorem fI:encs []=[]:=rfl
theorem iV(l:List ATxn)(t:ATxn):encs (l++[t])=encs l++(cE t).1:=by unfold encs;simp
theorem xh(l:List ATxn)(k:Nat)(h:k<l.length):encs (l.take (k+1))=encs (l.take k)++(cE (l.getD k default)).1:=by rw[aN l k h,iV]
def logOk(l:List ATxn):Prop:=(∀ k,k+1<l.length→(l.getD k default).zxid<(l.getD (k+1) default).zxid)∧∀ t,t∈l→aT t=0
theorem nq:logOk []:=⟨fun k h=>by simp at h,fun t h=>by cases h⟩
theorem kT{l:List ATxn}{t:ATxn}(h:logOk l)(hz:0<l.length→aA l<t.zxid)(ht:aT t=0):logOk (l++[t]):=by
 have g1:∀ j,j<l.length→(l++[t]).getD j default=l.getD j default:=fun j hj=>by rw[RG,R2 hj,RG]
 have g2:(l++[t]).getD l.length default=t:=by simp[RG]
 refine⟨fun k hk=>?_,fun x hx=>?_⟩
 ·rw[RL,Sv] at hk
  rw[g1 k (by omega)]
  by_cases e:k+1=l.length
  ·rw[e,g2]
   have:=hz (by omega);rw[d5 (by omega),show l.length-1=k from by omega] at this;exact this
  ·rw[g1 _ (by omega)];exact h.1 k (by omega)
 ·rcases Sp.1 hx with h1|h1
  ·exact h.2 x h1
  ·rw[S5.1 h1];exact ht
theorem iZ{l:List ATxn}(h:logOk l){i:Nat}:∀{j:Nat},i<j→j<l.length→(l.getD i default).zxid<(l.getD j default).zxid
 |0,h1,_=>by omega
 | j+1,h1,h2=>by
   by_cases e:i=j
   ·subst e;exact h.1 i h2
   ·exact Wu (iZ h (by omega) (by omega)) (h.1 j h2)
theorem AF(s:List UInt8):∀(f at_:Nat) (l:List ATxn),logOk l→encs l=s.take at_→at_≤s.length→logOk (gk s f at_ l).1∧encs (gk s f at_ l).1=s.take (gk s f at_ l).2∧(gk s f at_ l).2≤s.length
 |0,at_,l,h1,h2,h3=>⟨h1,h2,h3⟩
 | f + 1,at_,l,h1,h2,h3=>by
   by_cases hc:(cb (s.drop at_)).2.2≠0∨(0<l.length∧(cb (s.drop at_)).1.zxid≤aA l)
   ·rw[fN hc];exact⟨h1,h2,h3⟩
   ·have hz:(cb (s.drop at_)).2.2=0:=Sh fun h=>hc (.inl h)
    have hr:¬ (0<l.length∧(cb (s.drop at_)).1.zxid≤aA l):=fun h=>hc (.inr h)
    rcases jy (s.drop at_) with⟨c,_⟩|⟨_,c2,c3,_,c5⟩
    ·exact absurd hz c
    rw[gI hz hr c2];rw[RZ] at c3;refine AF s f _ _ (kT h1 (fun h0=>?_) c5) ?_ (by omega)
    ·exact Int.not_le.1 fun h=>hr ⟨h0,h⟩
    ·rw[iV,h2,LH hz];exact Wb.symm
theorem pK(s:List UInt8):logOk (scanT s).1∧encs (scanT s).1=s.take (scanT s).2∧(scanT s).2≤s.length:=AF s _ 0 [] nq rfl (RX _)
def keepL(l:List ATxn)(z:Int):List ATxn:=l.filter fun t=>decide (t.zxid≤z)
theorem uZ{l:List ATxn}{z:Int}{k:Nat}(hr:logOk l)(hk:k≤l.length)(h1:∀ j,j<k→(l.getD j default).zxid≤z)(h2:k<l.length→z<(l.getD k default).zxid):keepL l z=l.take k:=by
 unfold keepL
 conv=>lhs;rw[←SN k l]
 rw[SA]
 have e1:(l.take k).filter (fun t=>decide (t.zxid≤z))=l.take k:=by
  rw[SU];intro t ht;obtain⟨j,hj,rfl⟩:=ST.1 ht
  have:=h1 j (by omega);rw[RG,RH (by omega)] at this;simpa using this
 have e2:(l.drop k).filter (fun t=>decide (t.zxid≤z))=[]:=by
  rw[TH];intro t ht;obtain⟨j,hj,rfl⟩:=Te.1 ht;have a:=h2 (by omega)
  have:z<(l.getD (k+j) default).zxid:=by
   by_cases e:j=0
   ·subst e;exact a
   ·exact Wu a (iZ hr (by omega) (by omega))
  rw[RG,RH (by omega)] at this;simpa using this
 rw[e1,e2,Se]
theorem ui(l:List ATxn)(z:Int)(k:Nat)(h:k<l.length):keepL (l.take (k+1)) z=if(l.getD k default).zxid≤z then keepL (l.take k) z++[l.getD k default] else keepL (l.take k) z:=by
 unfold keepL;rw[aN l k h,SA]
 by_cases e:(l.getD k default).zxid≤z
 ·rw[RJ e,S2 (by simpa using e)];rfl
 ·rw[RI e,SE (by simpa using e),S3,Se]
theorem J9{l:List ATxn}{k:Nat}:encs (l.take k)=(encs l).take (encs (l.take k)).length:=by
 conv=>rhs;rw[show encs l=encs (l.take k)++encs (l.drop k) from by unfold encs;rw[←VJ,←Sn,SN]]
 rw[Uv];rfl
theorem nm(l:List AFile)(k:Nat):(l.map AFile.name).getD k []=(l.getD k default).name:=cW AFile.name l k default
theorem iN{l:List AFile}:bF l=true↔l.length≤16∧∀ k,k<l.length→vk l k:=by unfold bF;rw[RN]
theorem Ht{l:List AFile}{p:Nat}{x:AFile}(h:bF l=true)(hn:x.name=(l.getD p default).name)(hl:x.safe.length+x.tail.length≤1048576):bF (l.set p x)=true:=by
 rw[iN] at h ⊢
 have g (j:Nat):((l.set p x).getD j default).name=(l.getD j default).name:=by
  simp only[RG,To];split
  ·rename_i e;subst e
   split
   ·exact hn
   ·rename_i h2;rw[R9 (by omega)]
  ·rfl
 refine⟨by rw[R3];exact h.1,fun k hk=>?_⟩;rw[R3] at hk;obtain⟨a,b⟩:=h.2 k hk;refine⟨⟨by rw[g];exact a.1,?_⟩,by rw[g,g];exact b⟩;simp only[RG,To];split
 ·rename_i e;subst e
  split
  ·exact hl
  ·omega
 ·simpa only[RG] using a.2
theorem Ih{ns:List (List UInt8)}{key:List UInt8}{k:Nat}(h:k<place ns key):ns.getD k []<key:=by
 have hl:=eT ns key
 have:=Uh (p:=fun x=>!decide (x<key)) (xs:=ns) h;rw[RG,RH (by omega)];simpa using this
theorem H0{ns:List (List UInt8)}{key:List UInt8}(h:place ns key<ns.length):¬ ns.getD (place ns key) []<key:=by have:=UA (p:=fun x=>!decide (x<key)) (xs:=ns) (w:=h);rw[SY,RR] at this;rw[RG,RH h];exact this
theorem oK{α:Type}(l:List α)(i k:Nat)(x z:α)(h:i≤l.length)(hk:i<k):(l.insertIdx i x).getD k z=l.getD (k-1) z:=by rw[cT _ _ _ h,RG,RT (by rw[RV];omega),RV,SC h,show k-i=(k-i-1)+1 from by omega,Tt,SM,RG];congr 2;omega
theorem FO{l:List AFile}{key:List UInt8}{x:AFile}(h:bF l=true)(hx:x.name=key)(hm:¬ key∈l.map AFile.name)(hn:aU key=true)(hf:l.length<16)(hs:x.safe.length+x.tail.length≤1048576):bF (l.insertIdx (place (l.map AFile.name) key) x)=true:=by
 have hr:=bT h;have hp:=iT (l:=l) (key:=key);have lo:∀ j,j<place (l.map AFile.name) key→(l.getD j default).name<key:=fun j hj=>by rw[←nm];exact Ih hj
 have hi:∀ j,place (l.map AFile.name) key≤j→j<l.length→key<(l.getD j default).name:=fun j h1 h2=>by
  have a:=H0 (ns:=l.map AFile.name) (key:=key) (by rw[RO];omega);have b:key<(l.map AFile.name).getD (place (l.map AFile.name) key) []:=gN a fun e=>hm (by rw[←e];exact bu _ _ (by rw[RO];omega))
  by_cases e:place (l.map AFile.name) key=j
  ·rw[←nm,←e];exact b
  ·have:=aV hr (i:=place (l.map AFile.name) key) (j:=j) (by omega) (by rw[RO];omega)
   rw[nm l j] at this;exact Tk b this
 generalize place (l.map AFile.name) key=p at *
 rw[iN] at h ⊢;refine⟨by rw[dD _ _ _ hp];omega,fun k hk=>?_⟩;rw[dD _ _ _ hp] at hk;rcases TR k p with hkp|hkp|hkp
 ·obtain⟨a,b⟩:=h.2 k (by omega)
  refine⟨?_,fun h0=>?_⟩
  ·rw[dK _ _ _ _ _ hp hkp];exact a
  ·rw[dK _ _ _ _ _ hp hkp,dK _ _ _ _ _ hp (by omega)];exact b h0
 ·subst hkp
  refine⟨?_,fun h0=>?_⟩
  ·rw[gu _ _ _ _ hp];exact⟨by rw[hx];exact hn,hs⟩
  ·rw[gu _ _ _ _ hp,dK _ _ _ _ _ hp (by omega),hx];exact lo _ (by omega)
 ·obtain⟨a,b⟩:=h.2 (k-1) (by omega)
  refine⟨?_,fun h0=>?_⟩
  ·rw[oK _ _ _ _ _ hp hkp];exact a
  ·rw[oK _ _ _ _ _ hp hkp]
   by_cases e:k-1=p
   ·rw[e,gu _ _ _ _ hp,hx];exact hi _ (RP _) (by omega)
   ·rw[oK _ _ _ _ _ hp (by omega)];exact b (by omega)
def recoverD(l:List AFile):List ATxn×X4×Int:=
 if(readD l logN).2=7 then(if(aD l logN []).2=0 then([],(aD l logN []).1,0) else([],default,(aD l logN []).2))
 else if(readD l logN).2=0 then((scanT (readD l logN).1).1,(bo l logN (jG (scanT (readD l logN).1).2)).1,0)
 else([],default,(readD l logN).2)
theorem ki{l:List AFile}(key:List UInt8):(readD l key).1.length≤1048576:=by
 unfold readD;split
 ·decide
 ·rename_i hg
  split
  ·rename_i hm
   have hg':bF l=true:=by simpa using hg
   have hp:=dC hg' hm
   have:=((iN.1 hg').2 _ hp).1.2;simp only[RL];exact this
  ·decide
theorem ra{l:List AFile}{key:List UInt8}(h:(readD l key).2=0):bF l=true∧key∈l.map AFile.name∧(readD l key).1=(l.getD (place (l.map AFile.name) key) default).safe++(l.getD (place (l.map AFile.name) key) default).tail:=by
 unfold readD at h ⊢;split at h
 ·cases h
 ·rename_i hg
  split at h
  ·rename_i hm
   rw[RI hg,RJ hm];exact⟨by simpa using hg,hm,rfl⟩
  ·cases h
theorem Dn{l:List AFile}{key:List UInt8}(h:(readD l key).2=7):bF l=true∧¬ key∈l.map AFile.name:=by
 unfold readD at h;split at h
 ·cases h
 ·rename_i hg
  split at h
  ·cases h
  ·rename_i hm;exact⟨by simpa using hg,hm⟩
theorem Kb{l:List AFile}{key:List UInt8}{n:Nat}(hg:bF l=true)(hm:key∈l.map AFile.name)(hn:n≤((l.getD (place (l.map AFile.name) key) default).safe++(l.getD (place (l.map AFile.name) key) default).tail).length) :
  bo l key (jG n)=(⟨l.set (place (l.map AFile.name) key) ⟨key,((l.getD (place (l.map AFile.name) key) default).safe++(l.getD (place (l.map AFile.name) key) default).tail).take n,[]⟩⟩,0):=by
 have e:jG n (l.getD (place (l.map AFile.name) key) default)=(⟨(l.getD (place (l.map AFile.name) key) default).name,((l.getD (place (l.map AFile.name) key) default).safe++(l.getD (place (l.map AFile.name) key) default).tail).take n,[]⟩,0):=by rw[RL] at hn;unfold jG;rw[RI (by omega),Ta]
 rw[fW hg hm (by rw[e]),e]
 have:=(ag (bT hg) hm).2;rw[nm] at this;simp only[this]
theorem mV{l:List AFile}(h:(readD l logN).2=0):(bo l logN (jG (scanT (readD l logN).1).2))=(⟨l.set (place (l.map AFile.name) logN) ⟨logN,encs (scanT (readD l logN).1).1,[]⟩⟩,0):=by obtain⟨a,b,c⟩:=ra h;obtain⟨d1,d2,d3⟩:=pK (readD l logN).1;rw[Kb a b (by rw[←c];exact d3),←c,←d2]
theorem gV:aU logN=true:=by decide
theorem L1{α:Type}(l:List α)(p:Nat)(x z:α)(h:p<l.length):(l.set p x).getD p z=x:=by rw[RG,TW h];rfl
theorem Ab{l:List AFile}{p:Nat}{x:AFile}(h:x.name=(l.getD p default).name):(l.set p x).map AFile.name=l.map AFile.name:=by
 apply SR;intro j;rw[RS,RS,To];split
 ·rename_i e;subst e
  split
  ·rename_i h2;rw[RG,RH h2] at h;rw[RH h2];simp[h]
  ·rename_i h2;rw[R9 (by omega)]
 ·rfl
structure RecOk (l:List AFile) (r:List AFile) (L:List ATxn):Prop where
 good:bF r=true
 mem:logN∈r.map AFile.name
 file:r.getD (place (r.map AFile.name) logN) default=⟨logN,encs L,[]⟩
 ok:logOk L
 len:(encs L).length≤1048576
 cnt:L.length≤1048577
 wf:(∀ f,f∈l→f.wf)→∀ f,f∈r→f.wf
theorem DG{l:List AFile}(h:bF l=true):l.length*48≤140737488351232:=by have:=pn h;omega
theorem jh{l:List AFile}(h:(recoverD l).2.2=0):RecOk l (recoverD l).2.1.files (recoverD l).1:=by
 unfold recoverD at h ⊢
 by_cases h7:(readD l logN).2=7
 ·rw[RJ h7] at h ⊢
  by_cases hw:(aD l logN []).2=0
  ·rw[RJ hw]
   obtain⟨a,b⟩:=Dn h7;have hwf:=fun h0=>cM (l:=l) (s:=[]) gA h0
   unfold aD at hw ⊢ hwf;rw[RI (by simp[a]),RI (by simp[gV]),RI b] at hw ⊢ hwf;split at hw
   ·cases hw
   rename_i h16;rw[RI h16,RI (by decide)] at hwf ⊢;have hpl:=iT (l:=l) (key:=logN);have hg:=FO (x:=⟨logN,[],[]⟩) a rfl b gV (by omega) (by decide);have hnm:((l.insertIdx (place (l.map AFile.name) logN) (⟨logN,[],[]⟩:AFile)).map AFile.name).getD (place (l.map AFile.name) logN) []=logN:=by rw[nm,gu _ _ _ _ hpl]
   have hlt:place (l.map AFile.name) logN<((l.insertIdx (place (l.map AFile.name) logN) (⟨logN,[],[]⟩:AFile)).map AFile.name).length:=by rw[RO,dD _ _ _ hpl];omega
   have hpe:=pj (bT hg) hlt;rw[hnm] at hpe;refine⟨hg,?_,?_,nq,(RX 1048576),(RX 1048577),hwf⟩
   ·have:=bu _ [] hlt
    rw[hnm] at this;exact this
   ·show(l.insertIdx _ _).getD (place ((l.insertIdx _ _).map AFile.name) logN) default=_
    rw[hpe,gu _ _ _ _ hpl];rfl
  ·rw[RI hw] at h;exact absurd h hw
 ·rw[RI h7] at h ⊢
  by_cases h0:(readD l logN).2=0
  ·rw[RJ h0] at h ⊢
   rw[mV h0];obtain⟨a,b,c⟩:=ra h0;obtain⟨d1,d2,d3⟩:=pK (readD l logN).1;have hlen:=ki (l:=l) logN;have he:(encs (scanT (readD l logN).1).1).length≤1048576:=by rw[d2,RV];omega
   have hp:=dC a b;have hn:=(ag (bT a) b).2;rw[nm] at hn;have hmn:(l.set (place (l.map AFile.name) logN) (⟨logN,encs (scanT (readD l logN).1).1,[]⟩:AFile)).map AFile.name=l.map AFile.name:=Ab hn.symm;refine⟨Ht a hn.symm (by simpa using he),?_,?_,d1,he,by have:=yc (readD l logN).1;show(scanT _).1.length≤_;omega,fun hwf f hf=>?_⟩
   ·show logN∈(l.set _ _).map AFile.name
    rw[hmn];exact b
   ·show(l.set _ _).getD (place ((l.set _ _).map AFile.name) logN) default=_
    rw[hmn,L1 _ _ _ _ hp]
   ·rcases Td hf with h1|h1
    ·exact hwf f h1
    ·subst h1;exact⟨gA,by show okS (encs (scanT (readD l logN).1).1);unfold okS;omega,by show okS [];unfold okS;decide⟩
  ·rw[RI h0] at h;exact absurd h h0
theorem lv{l:List AFile}:(recoverD l).2.1.files.length*48≤140737488351232:=by
 unfold recoverD;split
 ·split
  ·exact hI
  ·exact(by decide:([]:List AFile).length*48≤140737488351232)
 ·split
  ·rename_i h0
   rw[mV h0]
   have:=DG (ra h0).1;show(l.set _ _).length*48≤_;rw[R3];exact this
  ·exact(by decide:([]:List AFile).length*48≤140737488351232)
theorem rH(l:List AFile):(recoverD l).1.length*72≤140737488351232:=by
 unfold recoverD;split
 ·split<;>exact(by decide:([]:List ATxn).length*72≤140737488351232)
 ·split
  ·have a:=yc (readD l logN).1
   have b:=ki (l:=l) logN;simp only;omega
  ·exact(by decide:([]:List ATxn).length*72≤140737488351232)
theorem Ol{l:List AFile}(h:(readD l logN).2=7)(h2:¬ (aD l logN []).2=0):recoverD l=([],default,(aD l logN []).2):=by unfold recoverD;rw[RJ h,RI h2]
theorem Ot{l:List AFile}(h:(readD l logN).2=7)(h2:(aD l logN []).2=0):recoverD l=([],(aD l logN []).1,0):=by unfold recoverD;rw[RJ h,RJ h2]
theorem Og{l:List AFile}(h:¬ (readD l logN).2=7)(h2:¬ (readD l logN).2=0):recoverD l=([],default,(readD l logN).2):=by unfold recoverD;rw[RI h,RI h2]
theorem Is{l:List AFile}(h:¬ (readD l logN).2=7)(h2:(readD l logN).2=0):recoverD l=((scanT (readD l logN).1).1,(bo l logN (jG (scanT (readD l logN).1).2)).1,0):=by unfold recoverD;rw[RI h,RJ h2]
theorem qU(d:X4)(h:d.files.length*48≤140737488351232)(hw:∀ f,f∈d.files→f.wf):ab prog [] 37 [d.av] (ret (.tup [.d (.sl 7 ((recoverD d.files).1.map ATxn.row)),(recoverD d.files).2.1.av,I (recoverD d.files).2.2])):=by
 have hr:=IC d logN h hw;have hs:=OH _ (ki (l:=d.files) logN);have hcut:=Oq d logN (scanT (readD d.files logN).1).2 h hw;have hwr:=zb d logN [] (by unfold okS;decide) gA h hw;refine zJ func37 ntmps37 results37 ?_;simp only[go_sem]
 (refine zW qw (z4 hr hwr hs hcut) @logN.eq_1 (zc ?_ (z4 ?_ ?_ ?_ ?_))<;>(repeat with_reducible intro hc))
 ·rw[Ol (by assumption) (by assumption)];exact zEe (zx @logN.eq_1 dfl)
 ·rw[Ot (by assumption) (by assumption)];exact zEe (zx @logN.eq_1 dfl)
 ·rw[Og (by assumption) (by assumption)];exact zEe (zx @logN.eq_1 dfl)
 ·have e:=mV (l:=d.files) (by assumption)
  exact absurd (congrArg Prod.snd e) hc
 ·rw[Is (by assumption) (by assumption)];exact zEe @logN.eq_1
theorem jW(d:X4)(h:d.files.length*48≤140737488351232)(hw:∀ f,f∈d.files→f.wf):ab prog [] 88 [d.av] (ret (.tup [.d (.sl 7 ((recoverD d.files).1.map ATxn.row)),(recoverD d.files).2.1.av,I (recoverD d.files).2.2])):=by
 have hr:=tJ d logN h hw;have hs:=DI _ (ki (l:=d.files) logN);have hcut:=Hg d logN (scanT (readD d.files logN).1).2 h hw;have hwr:=mo d logN [] (by unfold okS;decide) gA h hw;refine zJ func88 ntmps88 results88 ?_;simp only[go_sem]
 (refine zW qw (z4 hr hwr hs hcut) @logN.eq_1 (z4 ?_ ?_ ?_ ?_)<;>(repeat with_reducible intro hc))
 ·rw[Ol (by assumption) (by assumption)];exact zEe (zx @logN.eq_1 dfl)
 ·rw[Ot (by assumption) (by assumption)];exact zEe (zx @logN.eq_1 dfl)
 ·rw[Og (by assumption) (by assumption)];exact zEe (zx @logN.eq_1 dfl)
 ·rw[Is (by assumption) (by assumption)]
  have e:=congrArg Prod.snd (mV (l:=d.files) (by assumption));have e':(bo d.files [108,111,103] (jG (scanT (readD d.files [108,111,103]).1).2)).2=0:=e;exact zEe (zx @logN.eq_1 @e')
def keepD(l:List AFile)(z:Int):X4×Int:=
 if(recoverD l).2.2=0 then(⟨(recoverD l).2.1.files.set (place ((recoverD l).2.1.files.map AFile.name) logN) ⟨logN,encs (keepL (recoverD l).1 z),[]⟩⟩,0) else(default,(recoverD l).2.2)
theorem y6{l:List AFile}{z:Int}(h:¬ (recoverD l).2.2=0):keepD l z=(default,(recoverD l).2.2):=by unfold keepD;rw[RI h]
theorem pH{l:List AFile}{z:Int}(h:(recoverD l).2.2=0):keepD l z=(⟨(recoverD l).2.1.files.set (place ((recoverD l).2.1.files.map AFile.name) logN) ⟨logN,encs (keepL (recoverD l).1 z),[]⟩⟩,0):=by unfold keepD;rw[RJ h]
theorem yz{l:List AFile}{z:Int}:(keepD l z).1.files.length*48≤140737488351232:=by
 unfold keepD;split
 ·have:=lv (l:=l)
  show(List.set _ _ _).length*48≤_;rw[R3];exact this
 ·exact(by decide:([]:List AFile).length*48≤140737488351232)
theorem g9(l:List ATxn)(k:Nat):(encs (l.take k)).length≤(encs l).length:=by
 have:encs l=encs (l.take k)++encs (l.drop k):=by unfold encs;rw[←VJ,←Sn,SN]
 rw[this,RL];omega
theorem mh(p:ATxn→Bool):∀ l:List ATxn,(encs (l.filter p)).length≤(encs l).length
 |[]=>RP _
 | t::l=>by
   have ih:=mh p l;have e (x:ATxn) (r:List ATxn):(encs (x::r)).length=(cE x).1.length+(encs r).length:=by unfold encs;simp
   by_cases h:p t=true
   ·rw[S2 h,e,e];omega
   ·rw[SE h,e];omega
theorem Gt(L:List ATxn)(z:Int)(k:Nat):(encs (keepL (L.take k) z)).length≤(encs L).length:=
 R8 (mh _ _) (g9 L k)
theorem LU{l:List AFile}{z:Int}{k:Nat}(h:(recoverD l).2.2=0)(hk:k≤(recoverD l).1.length)(h1:∀ j,j<k→((recoverD l).1.getD j default).zxid≤z)(h2:k<(recoverD l).1.length→z<((recoverD l).1.getD k default).zxid) :
  bo (recoverD l).2.1.files logN (jG (encs ((recoverD l).1.take k)).length)=keepD l z:=by
 have o:=jh h;have hl:=g9 (recoverD l).1 k;rw[pH h,Kb o.good o.mem (by rw[o.file];simpa using hl),o.file,uZ o.ok hk h1 h2];simp only[Se];rw[←J9]
theorem Ey{l:List AFile}(h:(recoverD l).2.2=0){k:Nat}(hk:k<(recoverD l).1.length):aT ((recoverD l).1.getD k default)=0:=(jh h).ok.2 _ (aZ _ _ hk)
theorem O4(d:X4)(z:Int)(h:d.files.length*48≤140737488351232)(hw:∀ f,f∈d.files→f.wf):ab prog [] 183 [d.av,I z] (ret (.tup [(keepD d.files z).1.av,I (keepD d.files z).2])):=by
 by_cases h0:(recoverD d.files).2.2=0
 case neg=>
  rw[y6 h0];refine zJ func183 ntmps183 results183 ?_;simp only[go_sem]
  (refine zW qw (z1 (qU d h hw)) Yj (z1 ?_)<;>(repeat with_reducible intro hc))
  all_goals try exact zk1
  exact zEe dfl
 have o:=jh h0;have hrc:=qU d h hw;rw[h0] at hrc;have hcnt:=rH d.files;have hcuts (n:Nat):=Oq (recoverD d.files).2.1 logN n lv (o.wf hw);have htx (k:Nat) (hk:k<(recoverD d.files).1.length):=Ey h0 hk;have hkc (k:Nat) (hk:k≤(recoverD d.files).1.length):=LU (z:=z) h0 hk;have hlen:=o.len;generalize hR:(recoverD d.files).2.1=R at hrc hcuts hkc;generalize hL:(recoverD d.files).1=L at hrc hcnt htx hkc hlen;refine zJ func183 ntmps183 results183 ?_;simp only[go_sem]
 (refine zW qw (z1 hrc) Yj (z1 ?_)<;>(repeat with_reducible intro hc))
 refine W9 (ι:=Nat) (fun k=>k≤L.length∧∀ j,j<k→(L.getD j default).zxid≤z) (fun k=>L.length-k) [1,2,4,23,24] (fun k=>[(25,I k),(8,I (encs (L.take k)).length)]) (fun k=>[.cells [.d (.sl 3 (R.files.map AFile.row))],.cells [.d (.sc (.slice none 0 0))]]) 0 ?_ ?_ ?_
 ·exact⟨by omega,fun j hj=>by omega⟩
 ·simp only[go_sem,Tf,fI];exact zSm Yj
 intro k ⟨hk,hk2⟩;simp only[go_sem]
 by_cases hkl:k<L.length
 ·have hg:=htx k hkl
  obtain⟨s1,s2⟩:=fV hg;obtain⟨e1,e2⟩:=sJ hg;have he:=uJ (L.getD k default) (by unfold okS;omega) (by unfold okS;omega);have hlt:=g9 L (k+1);rw[xh L k hkl,RL] at hlt;rw[e2] at he
  (refine zW qw (z2 he (hcuts (encs (L.take k)).length)) @logN.eq_1 (z2 ?_ ?_)<;>(repeat with_reducible intro hc))
  ·have e:bo R.files [108,111,103] (jG (encs (L.take k)).length)=keepD d.files z:=hkc k hk hk2 (fun _=>hc)
   exact zEe @e
  ·refine⟨k+1,⟨by omega,fun j hj=>?_⟩,by omega,?_⟩
   ·by_cases ej:j=k
    ·subst ej;exact hc
    ·exact hk2 j (by omega)
   rw[xh L k hkl,RL];exact zFr [0,1] @Ss
 ·(refine zW qw (z1 (hcuts (encs (L.take k)).length)) @logN.eq_1 (z1 ?_)<;>(repeat with_reducible intro hc))
  have e:bo R.files [108,111,103] (jG (encs (L.take k)).length)=keepD d.files z:=hkc k hk hk2 (fun h=>by omega);exact zEe @e
theorem F6{t:ATxn}(h:aT t=0):okI t.zxid:=by
 by_cases h1:t.op<1∨5<t.op
 ·rw[ql h1] at h;cases h
 by_cases h2:lO t=true
 ·have:=((eF t).1 h2).1
  unfold bd at this;unfold okI;omega
 ·rw[ga (by omega) h2] at h;cases h
theorem D8(d:X4)(z:Int)(h:d.files.length*48≤140737488351232)(hw:∀ f,f∈d.files→f.wf):ab prog [] 154 [d.av,I z] (ret (.tup [(keepD d.files z).1.av,I (keepD d.files z).2])):=by
 by_cases h0:(recoverD d.files).2.2=0
 case neg=>
  rw[y6 h0];refine zJ func154 ntmps154 results154 ?_;simp only[go_sem]
  (refine zW qw (z1 (jW d h hw)) Yj (z1 ?_)<;>(repeat with_reducible intro hc))
  all_goals try exact zk1
  exact zEe dfl
 have o:=jh h0;have hrc:=jW d h hw;rw[h0] at hrc;have hcnt:=rH d.files;have htx (k:Nat) (hk:k<(recoverD d.files).1.length):=Ey h0 hk;have hlen:=o.len;have hfile:=(file_c (recoverD d.files).2.1 logN lv o.good).re (by rw[fileI_yes o.mem]);have hcopy:=bW (recoverD d.files).2.1 lv;have hky:=pH (z:=z) h0;have hplt:=dC o.good o.mem;generalize hR:(recoverD d.files).2.1=R at hrc hfile hcopy hky hplt;generalize hL:(recoverD d.files).1=L at hrc hcnt htx hlen hky;rw[hky];have hkl (k:Nat) (hk:k≤L.length):(encs (keepL (L.take k) z)).length≤1048576:=R8 (Gt L z k) hlen;refine zJ func154 ntmps154 results154 ?_;simp only[go_sem]
 (refine zW qw (z1 hrc) Yj (z1 ?_)<;>(repeat with_reducible intro hc))
 refine W9 (ι:=Nat) (fun k=>k≤L.length) (fun k=>L.length-k) [1,2,4,24,25] (fun k=>[(26,I k),(8,S (encs (keepL (L.take k) z)))]) (fun k=>[.cells [.d (.sl 3 (R.files.map AFile.row))],.cells [.d (.sc (.slice none 0 0))]]) 0 ?_ ?_ ?_
 ·omega
 ·simp only[go_sem,Tf,keepL,S3,fI];exact zSm Yj
 intro k hk;have hb:=hkl k hk;simp only[go_sem]
 by_cases hkl:k<L.length
 ·have hg:=htx k hkl
  obtain⟨s1,s2⟩:=fV hg;obtain⟨e1,e2⟩:=sJ hg;have he:=k9 (L.getD k default) (F6 hg) (by omega) (by unfold okS;omega);unfold okS at e1;rw[e2] at he
  (refine zW qw (z1 he) @logN.eq_1 (z2 ?_ ?_)<;>(repeat with_reducible intro hc))
  ·refine Zq (k+1) ?_
   rw[ui L z k hkl,RJ hc,iV];exact zFr [0,1] Yj
  ·refine Zq (k+1) ?_
   rw[ui L z k hkl,RI (by omega)];exact zFr [0,1] Yj
 ·have ek:k=L.length:=by omega
  subst ek;rw[R7] at *
  (refine zW qw (z2 hfile hcopy) (zx @logN.eq_1 (zx @AFile.rgetD (zx @bs (zx @AFile.rset (zx @az @List.set_set.{0}))))) (z3 ?_ ?_ ?_)<;>(repeat with_reducible intro hc))
  ·exact Int.ofNat_lt.2 hplt
  ·exact hplt
  exact zEe (zx @logN.eq_1 @bL)
def bV:List (List UInt8)→List UInt8
 |[]=>[]
 |p::ps=>47::(p++bV ps)
def bX(ps:List (List UInt8)):List UInt8:=if ps=[] then[47] else bV ps
theorem qR(a b:List (List UInt8)):bV (a++b)=bV a++bV b:=by
 induction a with
 |nil=>rfl
 |cons p a ih=>simp[bV,ih]
theorem nB(b:List UInt8):splitB (47::b)=[]::splitB b:=by simp[splitB]
theorem iL{c:UInt8}(h:¬ c=47)(r:List UInt8):splitB (c::r)=match splitB r with
  |p::ps=>(c::p)::ps
  |[]=>[[c]]:=by simp only[splitB,RI h]<;>(cases splitB r<;>rfl)
theorem DP(a b:List UInt8):splitB (a++47::b)=splitB a++splitB b:=by
 induction a with
 |nil=>exact nB b
 | cons c a ih=>
   by_cases h:c=47
   ·subst h
    rw[SB,nB,nB,ih];rfl
   ·rw[SB,iL h,iL h,ih]
    cases hs:splitB a with
    |nil=>exact absurd hs (nA a)
    |cons p ps=>rfl
theorem xS{p:List UInt8}(h:(47:UInt8)∉p):splitB p=[p]:=by
 induction p with
 |nil=>rfl
 | cons c p ih=>
   rw[RW,not_or] at h;rw[iL (fun e=>h.1 e.symm),ih h.2]
theorem splitB_join{p:List UInt8}{ps:List (List UInt8)}(hp:(47:UInt8)∉p)(h:∀ q,q∈ps→(47:UInt8)∉q):splitB (p++bV ps)=p::ps:=by
 induction ps generalizing p with
 |nil=>rw[bV,Se,xS hp]
 | cons q ps ih=>
   rw[bV,DP,xS hp,ih (h q (by simp)) (fun x hx=>h x (Si _ hx))];rfl
theorem yn{ps:List (List UInt8)}(h:∀ q,q∈ps→(47:UInt8)∉q):splitB (bV ps)=[]::ps:=
 splitB_join (p:=[]) (by simp) h
theorem rW:∀(r:List UInt8),∃ q qs,splitB r=q::qs∧r=q++bV qs
 |[]=>⟨[],[],rfl,rfl⟩
 | c :: r=>by
   obtain⟨q,qs,e1,e2⟩:=rW r
   by_cases h:c=47
   ·subst h
    exact⟨[],q::qs,by rw[nB,e1],by rw[e2];rfl⟩
   ·refine⟨c::q,qs,?_,by rw[e2];rfl⟩
    rw[iL h,e1]
theorem my{p:List UInt8}(h:aU p=true):(47:UInt8)∉p:=by
 intro hm;unfold aU at h;rw[RU,S6] at h
 have:=h.1 _ hm;revert this;decide
def dQ(s:List UInt8):List (List UInt8):=if s=[47] then[] else splitB (s.drop 1)
theorem kb{s:List UInt8}(h:br s=true):s=bX (dQ s)∧(∀ q,q∈dQ s→aU q=true)∧s.length≤200∧∀ q,q∈dQ s→(47:UInt8)∉q:=by
 have hl:=nj h
 have key:s=bX (dQ s)∧(∀ q,q∈dQ s→aU q=true):=by
  unfold dQ
  by_cases h47:s=[47]
  ·rw[RJ h47]
   exact⟨by rw[h47];rfl,by simp⟩
  ·rw [RI h47]
   unfold br at h;rw[R0 h47,V9,RU,RU,RN,RN] at h;obtain⟨_,⟨h1,h2⟩,h3⟩:=h;cases s with
   |nil=>simp at h1
   | cons c r=>
     have hc:c=47:=by simpa using h2
     subst hc;obtain⟨q,qs,e1,e2⟩:=rW r;refine⟨?_,fun x hx=>?_⟩
     ·show 47::r=bX (splitB r)
      rw[e1];unfold bX;rw[RI (by simp),bV,←e2]
     ·unfold cB at h3
      exact S6.1 h3 x hx
 exact⟨key.1,key.2,hl,fun q hq=>my (key.2 q hq)⟩
theorem tM{ps:List (List UInt8)}(h:ps≠[]):bV ps≠[]:=by
 cases ps with
 |nil=>exact absurd rfl h
 |cons p ps=>simp[bV]
theorem Ks{ps:List (List UInt8)}(hn:∀ q,q∈ps→aU q=true):bV ps≠[47]:=by
 cases ps with
 |nil=>simp[bV]
 | cons p ps=>
   intro h;have hp:=hn p (by simp);rw[bV,Sk] at h;have h2:=List.append_eq_nil_iff.1 h.2;rw[h2.1] at hp;revert hp;decide
theorem qT{ps:List (List UInt8)}(hn:∀ q,q∈ps→aU q=true):bX ps=[47]↔ps=[]:=by
 unfold bX;split
 ·rename_i h;exact iff_of_true rfl h
 ·rename_i h;exact iff_of_false (Ks hn) h
theorem iB{ps:List (List UInt8)}(hn:∀ q,q∈ps→aU q=true):dQ (bX ps)=ps:=by
 unfold dQ;split
 ·rename_i h;exact((qT hn).1 h).symm
 ·rename_i h
  have h0:ps≠[]:=fun e=>h ((qT hn).2 e)
  unfold bX;rw[RI h0];cases ps with
  |nil=>exact absurd rfl h0
  | cons p ps=>
    show splitB (p++bV ps)=_;exact splitB_join (my (hn p (by simp))) fun q hq=>my (hn q (Si _ hq))
theorem wm{ps:List (List UInt8)}(h:∀ q,q∈ps→aU q=true)(h0:ps≠[]):splitB (bX ps)=[]::ps:=by unfold bX;rw[RI h0];exact yn fun q hq=>my (h q hq)
theorem BE{ps:List (List UInt8)}(hn:∀ q,q∈ps→aU q=true)(hl:(bX ps).length≤200):br (bX ps)=true:=by
 unfold br
 by_cases h0:ps=[]
 ·subst h0;rfl
 ·have e:=iB hn
  unfold dQ at e;rw[RI (fun h=>h0 ((qT hn).1 h))] at e;rw[decide_eq_true hl,Ui];unfold cB;rw[e,S6.2 hn,WV,SQ,RN];refine .inr ?_;rw[RN];unfold bX;rw[RI h0];cases ps with
  |nil=>exact absurd rfl h0
  |cons p ps=>simp[bV]
theorem vo(ps:List (List UInt8))(k:Nat):(bV (ps.take k)).length≤(bV ps).length:=by have:=qR (ps.take k) (ps.drop k);rw[SN] at this;rw[this,RL];omega
theorem A9{ps:List (List UInt8)}(k:Nat)(h:(bX ps).length≤200):(bX (ps.take k)).length≤200:=by
 have:=vo ps k;unfold bX at *
 split at h
 ·rename_i e;subst e;simp
 ·split
  ·simp
  ·omega
def splitP(s:List UInt8):(List UInt8×List UInt8)×Int:=if br s=true then(if dQ s=[] then(([],[]),7) else((bX ((dQ s).take ((dQ s).length-1)),(dQ s).getD ((dQ s).length-1) []),0)) else(([],[]),2)
theorem qr{s:List UInt8}(h:¬ br s=true):splitP s=(([],[]),2):=by unfold splitP;rw[RI h]
theorem lD:splitP [47]=(([],[]),7):=by rfl
theorem kY{ps:List (List UInt8)}{p:List UInt8}(hn:∀ q,q∈ps++[p]→aU q=true)(hl:(bX (ps++[p])).length≤200):splitP (bX (ps++[p]))=((bX ps,p),0):=by
 unfold splitP;rw[RJ (BE hn hl),iB hn,RI (by simp),RL,Sv,TD,Uv]
 ·simp
 ·rfl
theorem lI{s:List UInt8}(h:br s=true):s=[47]∨∃ ps p,(∀ q,q∈ps++[p]→aU q=true)∧s=bX (ps++[p])∧(bX (ps++[p])).length≤200∧bX (ps++[p])=bV ps++47::p:=by
 obtain⟨h1,h2,h3,h4⟩:=kb h;rcases Vs (dQ s) with e|⟨ps,p,e⟩
 ·left;rw[h1,e];rfl
 ·right
  rw[Vt] at e;rw[e] at h1 h2;refine⟨ps,p,h2,h1,by rw[←h1];exact h3,?_⟩;unfold bX;rw[RI (by simp),qR];simp[bV]
theorem yQ(a b:List UInt8)(c:UInt8):(a++c::b).length=a.length+b.length+1:=by simp;omega
theorem DA(a b:List UInt8)(c d:UInt8)(j:Nat)(h:j<b.length):(a++c::b).getD (a.length+b.length-j) d=b.getD (b.length-1-j) d:=by rw[RG,RT (by omega),show a.length+b.length-j-a.length=(b.length-1-j)+1 from by omega,Tt,←RG]
theorem Dl(a b:List UInt8)(c d:UInt8):(a++c::b).getD a.length d=c:=by rw[RG,RT (by omega),Ty];rfl
theorem Ns(a b:List UInt8)(c:UInt8)(hc:c∉b)(hs:okS (a++c::b)):ab prog [] 196 [S (a++c::b),.d (.int .u8 c.toNat)] (ret (I a.length)):=by
 unfold okS at hs;have hlen:=yQ a b c;rw[hlen] at hs;have hst:((a.length+b.length+1:Nat):Int)-1=((a.length+b.length:Nat):Int):=by omega
 refine zJ func196 ntmps196 results196 ?_;simp only[go_sem];refine zW qw zn @hlen (z1 ?_);refine Xd (ι:=Nat) (fun j=>j≤b.length) (fun j=>b.length-j) [0,1] (fun j=>[(5,I ((a.length+b.length-j:Nat):Int))]) 0 ?_ (by simp(disch:=omega) only[go_sem,aa,hst,Sg]) ?_
 ·omega
 intro j hj;simp only[go_sem]
 (refine zW qw zn @hlen (z2 ?_ ?_)<;>(repeat with_reducible intro hc))
 ·by_cases e:j=b.length
  ·subst e
   exact zEe @TD
  ·have hlt:j<b.length:=by omega
   rw[DA a b c 0 j hlt] at hc;exfalso;have hb:b.getD (b.length-1-j) 0=c:=UInt8.toNat.inj (Int.ofNat_inj.1 hc);rw[RG,RH (by omega)] at hb;have hin:=SD (l:=b) (n:=b.length-1-j) (by omega);rw[show b[b.length-1-j]=c from hb] at hin;exact absurd hin (by assumption)
 ·by_cases e:j=b.length
  ·subst e
   exfalso;rw[TD,Dl] at hc;exact hc rfl
  ·refine Zq (j+1) ?_
   have e1:((a.length+b.length-(j+1):Nat):Int)=((a.length+b.length-j:Nat):Int)-1:=by omega
   rw[e1];exact zSm Yj
 all_goals(exfalso;omega)
theorem AP(a b:List UInt8)(c:UInt8)(hc:c∉b)(hs:okS (a++c::b)):ab prog [] 136 [S (a++c::b),.d (.int .u8 c.toNat)] (ret (I a.length)):=by refine zJ func136 ntmps136 results136 ?_;simp only[go_sem];refine zW qw (z1 (Ns a b c hc hs)) Yj (z1 ?_);exact zEe Yj
theorem split_c(s:List UInt8)(hs:okS s):ab prog [] 80 [S s] (ret (.tup [S (splitP s).1.1,S (splitP s).1.2,I (splitP s).2])):=by
 by_cases h:br s=true
 case neg=>
  rw[qr h];refine zJ func80 ntmps80 results80 ?_;simp only[go_sem]
  (refine zW qw (z1 ((good_c s hs).re (congrArg B (Tq h)))) Yj (z1 ?_)<;>(repeat with_reducible intro hc))
  exact zEe Yj
 rcases lI h with rfl|⟨ps,p,hn,e,hl,hj⟩
 ·rw[lD]
  refine zJ func80 ntmps80 results80 ?_;simp only[go_sem]
  (refine zW qw (z1 ((good_c [47] hs).re (congrArg B h))) Yj (z1 ?_)<;>(repeat with_reducible intro hc))
  exact zEe Yj
 have hsp:=kY hn hl;rw[←e] at hsp hl;rw[hsp];rw[hj] at e;have hp:=my (hn p (by simp));have hlen:=yQ (bV ps) p 47;rw[←e] at hlen;have hp0:p≠[]:=fun h1=>by have:=hn p (by simp);rw[h1] at this;revert this;decide
 have hpl:=TY.2 hp0;have h47:¬ s=[47]:=fun h0=>by rw[h0,Sv] at hlen;omega
 have hlast:ab prog [] 136 [S (bV ps++47::p),.d (.int .u8 47)] (ret (I (bV ps).length)):=AP (bV ps) p 47 hp (by rw[←e];exact hs);rw[←e] at hlast;refine zJ func80 ntmps80 results80 ?_;simp only[go_sem]
 (refine zW qw (z2 ((good_c s hs).re (congrArg B h)) hlast) @h47 (z2 ?_ ?_)<;>(repeat with_reducible intro hc))
 ·have e0:bV ps=[]:=Sf hc
  have eps:ps=[]:=V3 fun h=>tM h e0
  have e1:List.take (s.length-1) (List.drop 1 s)=p:=by rw[RK (by simp),e,e0];rfl
  have e2:bX ps=[47]:=by rw[eps];rfl
  rw[e2];exact zEe @e1
 ·have eps:ps≠[]:=fun h=>hc (by rw[h];rfl)
  have e1:List.take (s.length-((bV ps).length+1)) (List.drop ((bV ps).length+1) s)=p:=by rw[RK (by simp),e,←SH,List.drop_left];rfl
  have e2:bX ps=bV ps:=by unfold bX;rw[RI eps]
  have e3:List.take (bV ps).length s=bV ps:=by rw[e,List.take_left]
  have e4:(((bV ps).length:Int)+1).toNat=(bV ps).length+1:=by omega
  rw[e2];exact zEe (zx @e4 (zx @e1 (zx @e3 @Sg)))
theorem Dh(ps:List (List UInt8))(p:List UInt8):bV (ps++[p])=bV ps++47::p:=by rw[qR];simp[bV]
theorem bC(s:List UInt8)(hs:s.length≤1048576):ab prog [] 170 [S s] (ret (.tup [S (splitP s).1.1,S (splitP s).1.2,I (splitP s).2])):=by
 by_cases h:br s=true
 case neg=>
  rw[qr h];refine zJ func170 ntmps170 results170 ?_;simp only[go_sem]
  (refine zW qw (z1 ((bx s hs).re (congrArg B (Tq h)))) Yj (z1 ?_)<;>(repeat with_reducible intro hc))
  exact zEe Yj
 rcases lI h with rfl|⟨ps,p,hn,e,hl,hj⟩
 ·rw[lD]
  refine zJ func170 ntmps170 results170 ?_;simp only[go_sem]
  (refine zW qw (z1 ((bx [47] hs).re (congrArg B h))) Yj (z1 ?_)<;>(repeat with_reducible intro hc))
  exact zEe Yj
 have hsp:=kY hn hl;have hpieces:=wm hn (by simp);rw[←e] at hsp hl hpieces;rw[hsp];rw[hj] at e
 have hn47:¬ s=[47]:=fun h0=>by
  rw[h0] at hpieces;have h2:=hn p (by simp);have h3:ps++[p]=[[]]:=by have:splitB [47]=[[],[]]:=rfl;rw[this,Sk] at hpieces;exact hpieces.2.symm
  have h4:p∈ps++[p]:=by simp
  rw[h3,S5] at h4;rw[h4] at h2;revert h2;decide
 have hst:=(Fg s hs).re (by rw[hpieces]);have hjl:(bV ps).length≤200:=by have:=yQ (bV ps) p 47;rw[←e] at this;omega
 have hpl:ps.length+1≤201:=by have:=qG s;rw[hpieces] at this;simp at this;omega
 have en:((ps.length+1+1:Nat):Int)-1=((ps.length+1:Nat):Int):=by omega
 have em:min ps.length (ps.length+1)=ps.length:=by omega
 have etk:List.take ps.length (List.map srow (ps++[p]))=List.map srow ps:=by simp
 have eg:([DV.str []]::List.map srow (ps++[p])).getD (ps.length+1) []=srow p:=by rw[RG,Tt,Sn,RT (by simp)];simp
 refine zJ func170 ntmps170 results170 ?_;simp only[go_sem]
 (refine zW qw (z2 ((bx s hs).re (congrArg B h)) hst) (zx @hn47 (zx @en (zx @em (zx @etk (zx @eg @TD))))) (z1 ?_)<;>(repeat with_reducible intro hc))
 refine Xd (ι:=Nat) (fun k=>k≤ps.length) (fun k=>ps.length-k) [5,6,22,23] (fun k=>[(7,S (bV (ps.take k))),(24,I k)]) 0 ?_ (by simp(disch:=omega) only[go_sem,aa,bV]) ?_
 ·omega
 intro k hk;have hkl:=vo ps k
 have hgk:(ps.getD k []).length≤40:=by
  by_cases hk2:k<ps.length
  ·exact oV (hn _ (U1 _ (bu ps [] hk2)))
  ·rw[RG,R9 (by omega)];exact RX _
 have egd:(ps++[p]).getD ps.length default=p:=by rw[RG,RT (RP _),Ty];rfl
 simp only[go_sem]
 (refine zW qw zn (zx @fa (zx @srow.eq_1 (zx @en @eg))) (z3 ?_ ?_ ?_)<;>(repeat with_reducible intro hc))
 ·refine Zq (k+1) ?_
  have ets:ps.take (k+1)=ps.take k++[ps.getD k []]:=aN ps k (by assumption);rw[ets,Dh];exact zSm Yj
 ·have ek:k=ps.length:=by omega
  rw[ek,R7] at hc;have eps:ps=[]:=V3 fun h=>tM h hc
  have e2:bX ps=[47]:=by rw[eps];rfl
  rw[e2];exact zEe @egd
 ·have ek:k=ps.length:=by omega
  subst ek;rw[R7] at *
  have eps:ps≠[]:=fun h=>hc (by rw[h];rfl)
  have e2:bX ps=bV ps:=by unfold bX;rw[RI eps]
  rw[e2];exact zEe @egd
/-! Depth. -/
def ar(t:XW):List (List UInt8):=t.nodes.map XU.path
def nd(t:XW)(k:Nat):XU:=t.nodes.getD k default
def eK(l:List Int)(k:Nat):Prop:=1≤l.getD k default∧l.getD k default≤2147483647∧(0<k→l.getD (k-1) default<l.getD k default)
instance (l:List Int) (k:Nat):Decidable (eK l k):=by unfold eK;infer_instance
def kp(t:XW)(k:Nat):Prop:=br (nd t k).path=true∧(nd t k).data.length≤256∧(0<k→(nd t (k-1)).path<(nd t k).path)
instance (t:XW) (k:Nat):Decidable (kp t k):=by unfold kp;infer_instance
def pg(t:XW)(s:X8):Prop:=0≤s.version∧s.version≤2147483647∧0≤s.cversion∧s.cversion≤2147483647∧0≤s.czxid∧s.czxid≤s.mzxid∧s.czxid≤s.pzxid∧s.mzxid≤t.zxid∧s.pzxid≤t.zxid
instance (t:XW) (s:X8):Decidable (pg t s):=by unfold pg;infer_instance
def sG(t:XW)(s:X8):Prop:=s.owner≠0→s.owner∈t.sessions∧s.kids=0
instance (t:XW) (s:X8):Decidable (sG t s):=by unfold sG;infer_instance
def mw(t:XW)(k:Nat):List UInt8:=(splitP (nd t k).path).1.1
def kidsN(t:XW)(p:List UInt8)(n:Nat):Nat:=((List.range n).filter fun j=>decide (mw t j=p)).length
def upB(t:XW)(k:Nat):Prop:=k=0∨mw t k∈ar t
instance (t:XW) (k:Nat):Decidable (upB t k):=by unfold upB;infer_instance
def jC(t:XW):Prop:=1≤t.nodes.length∧t.nodes.length≤400∧(nd t 0).path=[47]∧(nd t 0).stat.owner=0∧bd t.zxid
instance (t:XW):Decidable (jC t):=by unfold jC;infer_instance
def aS(t:XW):Bool:=decide (jC t∧(∀ k,k<t.sessions.length→eK t.sessions k)∧(∀ k,k<t.nodes.length→kp t k)∧
 ∀ k,k<t.nodes.length→pg t (nd t k).stat∧sG t (nd t k).stat∧upB t k∧(nd t k).stat.kids=kidsN t (nd t k).path t.nodes.length)
theorem bi{t:XW}:aS t=true↔jC t∧(∀ k,k<t.sessions.length→eK t.sessions k)∧(∀ k,k<t.nodes.length→kp t k)∧
  ∀ k,k<t.nodes.length→pg t (nd t k).stat∧sG t (nd t k).stat∧upB t k∧(nd t k).stat.kids=kidsN t (nd t k).path t.nodes.length:=by unfold aS;rw[RN]
theorem aR(t:XW)(k:Nat):(ar t).getD k []=(nd t k).path:=cW XU.path t.nodes k default
theorem aK(t:XW):(ar t).length=t.nodes.length:=by unfold ar;simp
theorem oF{l:List Int}(h:∀ k,k<l.length→eK l k):fw l:=fun k hk=>by have:=(h (k+1) (by omega)).2.2 (by omega);simpa using this
theorem Cd{t:XW}(h:∀ k,k<t.nodes.length→kp t k):aF (ar t):=fun k hk=>by
 rw[aK] at hk
 have:=(h (k+1) hk).2.2 (by omega);rw[aR,aR];simpa using this
theorem aE{t:XW}(h:aS t=true):aF (ar t):=Cd (bi.1 h).2.2.1
theorem gh{t:XW}(h:aS t=true):fw t.sessions:=oF (bi.1 h).2.1
theorem cu{t:XW}(h:aS t=true):jC t:=(bi.1 h).1
theorem findU_c(t:XW)(key:List UInt8)(h:t.nodes.length*88≤140737488351232):ab prog [] 74 [t.av,S key] (ret (.tup [I (bsN (ar t) key),B (jo (ar t) key)])):=by unfold ar;refine zJ func74 ntmps74 results74 ?_;simp only[go_sem];refine zW qw (z1 (Gw t.nodes key h)) Yj (z1 ?_);exact zEe Yj
theorem yx(t:XW)(key:List UInt8)(h:t.nodes.length*88≤140737488351232)(hr:aF (ar t)):ab prog [] 74 [t.av,S key] (ret (.tup [I (place (ar t) key),B (decide (key∈ar t))])):=by have:=findU_c t key h;rwa[xu hr,pP hr] at this
theorem open_c(t:XW)(s:Int)(h:t.sessions.length*8≤140737488351232)(hr:fw t.sessions):ab prog [] 79 [t.av,I s] (ret (B (decide (s∈t.sessions)))):=by refine zJ func79 ntmps79 results79 ?_;simp only[go_sem];refine zW qw (z1 (z7 t.sessions s h hr)) Yj (z1 ?_);exact zEe Yj
def aw(t:XW)(key:List UInt8):XU×Int:=if key∈ar t then(nd t (place (ar t) key),0) else(default,7)
theorem lF(t:XW)(key:List UInt8)(h:t.nodes.length*88≤140737488351232)(hr:aF (ar t)):ab prog [] 43 [t.av,S key] (ret (.tup [(aw t key).1.av,I (aw t key).2])):=by
 by_cases hm:key∈ar t
 ·have hp:=(ag hr hm).1
  rw[aK] at hp;unfold aw;rw[RJ hm];refine zJ func43 ntmps43 results43 ?_;simp only[go_sem]
  (refine zW qw (z1 ((yx t key h hr).re (by rw[decide_eq_true hm]))) Yj (z1 ?_)<;>(repeat with_reducible intro hc))
  exact zEe @nd.eq_1
 ·unfold aw
  rw[RI hm];refine zJ func43 ntmps43 results43 ?_;simp only[go_sem]
  (refine zW qw (z1 ((yx t key h hr).re (by rw[R0 hm]))) Yj (z1 ?_)<;>(repeat with_reducible intro hc))
  exact zEe dfl
def t00:XW:=⟨0,[⟨[47],[],⟨0,0,0,0,0,0,0⟩⟩],[]⟩
theorem Oi:ab prog [] 31 [] (ret t00.av):=by refine zJ func31 ntmps31 results31 ?_;simp only[go_sem];refine zW qw zn Yj (z1 ?_);exact zEe @t00.eq_1
theorem xf:ab prog [] 90 [] (ret t00.av):=by refine zJ func90 ntmps90 results90 ?_;simp only[go_sem];refine zW qw zn Yj (z1 ?_);exact zEe @t00.eq_1
theorem vn{t:XW}(hw:t.wf)(k:Nat):okS (t.nodes.getD k default).path∧okS (t.nodes.getD k default).data:=by
 by_cases e:k<t.nodes.length
 ·have:=hw.2.1.2 _ (aZ t.nodes k e)
  exact⟨this.1,this.2.1⟩
 ·rw[RG,R9 (by omega)];exact⟨show okS [] by unfold okS;decide,show okS [] by unfold okS;decide⟩
theorem KJ{s:List UInt8}(h:(splitP s).2=0):(splitP s).1.1≠[]:=by
 unfold splitP at h ⊢;split at h
 ·rename_i hg
  split at h
  ·cases h
  ·rename_i h0
   rw[RJ hg,RI h0];show bX _≠[];unfold bX;split
   ·decide
   ·rename_i h1;exact tM h1
 ·cases h
theorem G0{s:List UInt8}(h:¬ (splitP s).2=0):(splitP s).1.1=[]:=by
 unfold splitP at h ⊢;split at h
 ·rename_i hg
  split at h
  ·rename_i h0;rw[RJ hg,RJ h0]
  ·exact absurd rfl h
 ·rename_i hg;rw[RI hg]
theorem AZ{s:List UInt8}(h:br s=true):s≠[]:=by rintro rfl;revert h;decide
theorem Dv(t:XW)(p:List UInt8):kidsN t p 0=0:=rfl
theorem jA(t:XW)(p:List UInt8)(k:Nat):kidsN t p (k+1)=kidsN t p k+if mw t k=p then 1 else 0:=by
 unfold kidsN;rw[VF,SA,RL]
 by_cases e:mw t k=p
 ·rw[RJ e,S2 (by simpa using e)];rfl
 ·rw[RI e,SE (by simpa using e)];rfl
theorem BM(t:XW)(p:List UInt8)(k:Nat):kidsN t p k≤k:=by unfold kidsN;exact R8 (SW _ _) (by rw[Vl];exact RP _)
theorem iM{t:XW}(h:aS t=true→False):aS t=false:=by
 cases e:aS t
 ·rfl
 ·exact(h e).elim
theorem tg{t:XW}(h:¬ jC t):false=aS t:=(iM fun h2=>h (cu h2)).symm
theorem E2{t:XW}{k:Nat}(hk:k<t.sessions.length)(h:¬ eK t.sessions k):false=aS t:=(iM fun h2=>h ((bi.1 h2).2.1 k hk)).symm
theorem KD{t:XW}{k:Nat}(hk:k<t.nodes.length)(h:¬ kp t k):false=aS t:=(iM fun h2=>h ((bi.1 h2).2.2.1 k hk)).symm
theorem p6{t:XW}{k:Nat}(hk:k<t.nodes.length)(h:¬ (pg t (nd t k).stat∧sG t (nd t k).stat∧upB t k∧(nd t k).stat.kids=kidsN t (nd t k).path t.nodes.length)):false=aS t:=(iM fun h2=>h ((bi.1 h2).2.2.2 k hk)).symm
def Jb(t:XW)(i:Nat):Prop:=((((((((((br (nd t i).path=true∧((nd t i).data.length:Int)≤256)∧((i:Int)≤0∨(nd t (i-1)).path<(nd t i).path))∧0≤(nd t i).stat.version)∧(nd t i).stat.version≤2147483647)∧0≤(nd t i).stat.cversion)∧(nd t i).stat.cversion≤2147483647)∧
 0≤(nd t i).stat.czxid)∧(nd t i).stat.czxid≤(nd t i).stat.mzxid)∧(nd t i).stat.czxid≤(nd t i).stat.pzxid)∧(nd t i).stat.mzxid≤t.zxid)∧(nd t i).stat.pzxid≤t.zxid
theorem Bt{t:XW}{i:Nat}(h:Jb t i):kp t i∧pg t (nd t i).stat:=by obtain⟨⟨⟨⟨⟨⟨⟨⟨⟨⟨⟨h1,h2⟩,h3⟩,h4⟩,h5⟩,h6⟩,h7⟩,h8⟩,h9⟩,h10⟩,h11⟩,h12⟩:=h;exact⟨⟨h1,by omega,fun h0=>h3.resolve_left (by omega)⟩,h4,h5,h6,h7,h8,h9,h10,h11,h12⟩
theorem N7{s:List UInt8}(hg:br s=true)(h:¬ (splitP s).2=0):s=[47]:=by
 unfold splitP at h;rw[RJ hg] at h;split at h
 ·rename_i h0
  have:=(kb hg).1;rw[h0] at this;exact this
 ·exact absurd rfl h
theorem tP{t:XW}:∀{i:Nat},(∀ j,j≤i→kp t j)→0<i→(nd t 0).path<(nd t i).path
 |0,_,h=>by omega
 | i+1,h,_=>by
   have:=(h (i+1) (RP _)).2.2 (by omega);rw[TD] at this
   by_cases e:i=0
   ·subst e;exact this
   ·exact Tk (tP (fun j hj=>h j (by omega)) (by omega)) this
theorem MB{t:XW}{i:Nat}(hh:jC t)(hA:∀ j,j≤i→kp t j)(he:¬ (splitP (nd t i).path).2=0):upB t i:=by
 by_cases e:i=0
 ·exact .inl e
 ·have h1:=tP hA (by omega)
  rw[N7 (hA i (RP _)).1 he,hh.2.2.1] at h1;exact absurd h1 (Sw _)
theorem Ox{t:XW}{i:Nat}(hi:i<t.nodes.length)(h0:(splitP (nd t i).path).2=0)(h:jo (ar t) (splitP (nd t i).path).1.1=false):false=aS t:=by
 refine(iM fun h2=>?_).symm;rw[pP (aE h2),RR] at h;rcases((bi.1 h2).2.2.2 i hi).2.2.1 with e|e
 ·subst e
  rw[(cu h2).2.2.1] at h0;exact absurd h0 (by decide)
 ·exact h e
theorem Pq{t:XW}{i:Nat}(hi:i<t.nodes.length)(h0:¬ (nd t i).stat.owner=0)(h:¬ (nd t i).stat.owner∈t.sessions∨¬ (nd t i).stat.kids=0):false=aS t:=
 p6 hi fun⟨_,ho,_,_⟩=>by
  obtain⟨a,b⟩:=ho h0;rcases h with h|h
  ·exact h a
  ·exact h b
structure TLoop (t:XW) (i:Nat) (m:List (List UInt8×Int)):Prop where
 le:i≤t.nodes.length
 ok:∀ j,j<i→kp t j∧pg t (nd t j).stat∧sG t (nd t j).stat∧upB t j
 cnt:∀ p,p≠[]→lL m p=(kidsN t p i:Nat)
theorem Es{t:XW}{i:Nat}{m:List (List UInt8×Int)}(h:TLoop t i m)(hi:i<t.nodes.length)(hc:Jb t i)(ho:sG t (nd t i).stat)(h0:(splitP (nd t i).path).2=0)(hf:jo (ar t) (splitP (nd t i).path).1.1=true) :
  TLoop t (i+1) (mset m (splitP (nd t i).path).1.1 (lL m (splitP (nd t i).path).1.1+1)):=by
 refine⟨by omega,fun j hj=>?_,fun p hp=>?_⟩
 ·by_cases e:j=i
  ·subst e;obtain⟨a,b⟩:=Bt hc;exact⟨a,b,ho,.inr (C3 hf)⟩
  ·exact h.ok j (by omega)
 ·have:=GX m (splitP (nd t i).path).1.1 p
  unfold JT at this;rw[this,h.cnt p hp,jA]
  by_cases e:p=(splitP (nd t i).path).1.1
  ·rw[RJ e,RJ (show mw t i=p from e.symm)];omega
  ·rw[RI e,RI (show ¬ mw t i=p from fun e2=>e e2.symm)];omega
theorem Ff{t:XW}{i:Nat}{m:List (List UInt8×Int)}(h:TLoop t i m)(hh:jC t)(hi:i<t.nodes.length)(hc:Jb t i)(ho:sG t (nd t i).stat)(h0:¬ (splitP (nd t i).path).2=0):TLoop t (i+1) m:=by
 obtain⟨a,b⟩:=Bt hc
 have hA:∀ j,j≤i→kp t j:=fun j hj=>by
  by_cases e:j=i
  ·subst e;exact a
  ·exact(h.ok j (by omega)).1
 refine⟨by omega,fun j hj=>?_,fun p hp=>?_⟩
 ·by_cases e:j=i
  ·subst e;exact⟨a,b,ho,MB hh hA h0⟩
  ·exact h.ok j (by omega)
 ·rw[h.cnt p hp,jA,RI (show ¬ mw t i=p from fun e2=>hp (e2.symm.trans (G0 h0)))];rfl
theorem EX{t:XW}{i:Nat}{m:List (List UInt8×Int)}(h:TLoop t i m)(h4:t.nodes.length≤400)(h0:(splitP (nd t i).path).2=0):IntKind.i64.wrap (lL m (splitP (nd t i).path).1.1+1)=lL m (splitP (nd t i).path).1.1+1:=by have a:=h.cnt _ (KJ h0);have b:=BM t (splitP (nd t i).path).1.1 i;have c:=h.le;simp[IntKind.wrap,IntKind.bits,IntKind.signed];omega
theorem Fn{t:XW}{i:Nat}(h:(nd t i).stat.owner∈t.sessions∧(nd t i).stat.kids=0):sG t (nd t i).stat:=fun _=>h
theorem Ba{t:XW}{i:Nat}(h:(nd t i).stat.owner=0):sG t (nd t i).stat:=fun h2=>absurd h h2
theorem FX{t:XW}{m:List (List UInt8×Int)}(hh:jC t)(hs:∀ j,j<t.sessions.length→eK t.sessions j)(h:TLoop t t.nodes.length m)(hk:∀ j,j<t.nodes.length→(nd t j).stat.kids=lL m (nd t j).path):aS t=true:=by refine bi.2 ⟨hh,hs,fun k hk=>(h.ok k hk).1,fun k hk2=>?_⟩;obtain⟨a,b,c,d⟩:=h.ok k hk2;refine⟨b,c,d,?_⟩;rw[hk k hk2,h.cnt _ (AZ a.1)]
theorem N2{t:XW}{m:List (List UInt8×Int)}{k:Nat}(h:TLoop t t.nodes.length m)(hk:k<t.nodes.length)(hc:¬ (nd t k).stat.kids=lL m (nd t k).path):false=aS t:=
 p6 hk fun⟨_,_,_,h2⟩=>hc (by rw[h2,h.cnt _ (AZ (h.ok k hk).1.1)])
theorem lk(t:XW)(hw:t.wf):ab prog [] 34 [t.av] (ret (B (aS t))):=by
 have hok:=vn hw;obtain⟨hz,⟨hn,hnw⟩,⟨hs,hsw⟩⟩:=hw;refine zJ func34 ntmps34 results34 ?_;simp only[go_sem]
 (repeat' first
|(with_reducible refine AR.f ?_)
|refine bH (by decide) ?_
|(with_reducible refine AWP.cond rfl ?_ ?_<;>intro hc<;>(try simp only[hcs,R1,Sa,Sb] at hc))
|((first|((first|(with_reducible first|refine zR ?_|refine zQ ?_|refine zD ?_|refine zE ?_|refine zG ?_));intro K hK)|((first|refine zA (zgood_c t.zxid) ?_ ?_ ?_ ?_ ?_);(focus exact rfl);(focus exact rfl);iterate 2 (focus((try simp(disch:=omega) only[go_sem,aa])<;>(try omega)<;>fail)))|((first|refine zX (zgood_c t.zxid) rfl ?_ ?_);(focus((try simp(disch:=omega) only[go_sem,aa])<;>(try omega)<;>fail)))|((first|(with_reducible refine aunder_i ?_ ?_<;>intro hg)|with_reducible intro hg)<;>(first|(exfalso;simp at hg;done)|(have hg':=hg;(try simp only[hcs,R1,Sa,Sb] at hg');(try simp only[hg])))))<;>(try simp(disch:=omega) only[go_sem,aa])<;>(repeat' with_reducible refine Su ?_ ?_)<;>(try(with_reducible refine hK _ ?_;clear hK K)))
|omega)
 ·(refine zE2 Yj ?_;(try simp(disch:=omega) only[go_sem,aa,I,B,S,zj]))
  refine tg fun⟨a1,a2,a3,a4,a5⟩=>?_
  rcases hc with(((h|h)|h)|h)|h
  ·omega
  ·omega
  ·exact h a3
  ·exact h a4
  ·exact h a5
 rotate_left
 ·simp_all
 ·(refine zE2 Yj ?_;(try simp(disch:=omega) only[go_sem,aa,I,B,S,zj]))
  refine tg fun⟨a1,a2,a3,a4,a5⟩=>?_
  rcases hg' with((h|h)|h)|h
  ·omega
  ·omega
  ·exact h a3
  ·exact h a4
 have hhead:jC t:=⟨by omega,by omega,hc.1.1.2,hc.1.2,hc.2⟩;have h400:t.nodes.length≤400:=by omega
 clear hc hg;refine Xd (ι:=Nat) (fun k=>k≤t.sessions.length∧∀ j,j<k→eK t.sessions j) (fun k=>t.sessions.length-k) [1,50,51] (fun k=>[(52,I k)]) 0 ?_ (by simp(disch:=omega) only[go_sem,aa,SI]) ?_
 ·exact⟨by omega,fun j hj=>by omega⟩
 intro k ⟨hk,hk2⟩;simp only[go_sem]
 (refine zW qw zn @fX (z3 ?_ ?_ ?_)<;>(repeat with_reducible intro hc))
 ·(refine zE2 Yj ?_;(try simp(disch:=omega) only[go_sem,aa,I,B,S,zj]))
  refine E2 (k:=k) (by omega) fun⟨a1,a2,a3⟩=>?_
  rcases hc with(h|h)|h
  ·omega
  ·omega
  ·exact absurd (a3 (by omega)) (by omega)
 ·refine⟨k+1,⟨by omega,fun j hj=>?_⟩,by omega,?_⟩
  ·by_cases e:j=k
   ·subst e;exact⟨hc.1.1,hc.1.2,fun h0=>hc.2.resolve_left (by omega)⟩
   ·exact hk2 j (by omega)
  exact zSm Yj
 have hss:∀ j,j<t.sessions.length→eK t.sessions j:=fun j hj=>hk2 j (by omega)
 have hri:=oF hss;clear hk2 hk hc;refine W9 (ι:=Nat×List (List UInt8×Int)) (fun v=>TLoop t v.1 v.2) (fun v=>t.nodes.length-v.1) [1,5,80,81] (fun v=>[(82,I v.1)]) (fun v=>[.cells [.d (.int .i64 t.zxid),.d (.sl 9 (t.nodes.map XU.row)),.d (.sl 1 (t.sessions.map aY))],.map v.2]) (0,[]) ?_ ?_ ?_
 ·exact⟨by simp,fun j hj=>by simp at hj,fun p hp=>rfl⟩
 ·simp only[go_sem];exact zSm Yj
 intro⟨i,m⟩ hT;simp only at hT;have hokk:=(hok i).1;have hokd:=(hok i).2;have hle:=hT.le;simp only[go_sem]
 (repeat' first
|(with_reducible refine AR.f ?_)
|refine bH (by decide) ?_
|(with_reducible refine AWP.cond rfl ?_ ?_<;>intro hc<;>(try simp only[hcs,R1,Sa,Sb] at hc))
|((first|((first|(with_reducible first|refine zR ?_|refine zQ ?_|refine zD ?_|refine zE ?_|refine zG ?_));intro K hK)|((first|refine acallH_sc (good_c _ hokk) rfl rfl ?_ ?_ ?_|refine acallQ_sc (good_c _ hokk) rfl rfl ?_ ?_ ?_|refine acallH_sc (open_c t _ hs hri) rfl rfl ?_ ?_ ?_|refine acallQ_sc (open_c t _ hs hri) rfl rfl ?_ ?_ ?_|refine acallH_sc (split_c _ hokk) rfl rfl ?_ ?_ ?_|refine acallQ_sc (split_c _ hokk) rfl rfl ?_ ?_ ?_|refine acallH_sc (findU_c t _ hn) rfl rfl ?_ ?_ ?_|refine acallQ_sc (findU_c t _ hn) rfl rfl ?_ ?_ ?_);iterate 2 (focus((try simp(disch:=omega) only[go_sem,aa,fX,ey,U5])<;>(try omega)<;>fail)))|((first|refine zX (good_c _ hokk) rfl ?_ ?_|refine zX (open_c t _ hs hri) rfl ?_ ?_|refine zX (split_c _ hokk) rfl ?_ ?_|refine zX (findU_c t _ hn) rfl ?_ ?_);(focus((try simp(disch:=omega) only[go_sem,aa,fX,ey,U5])<;>(try omega)<;>fail)))|((first|(with_reducible refine aunder_i ?_ ?_<;>intro hg)|with_reducible intro hg)<;>(first|(exfalso;simp at hg;done)|(have hg':=hg;(try simp only[hcs,R1,Sa,Sb] at hg');(try simp only[hg])))))<;>(try simp(disch:=omega) only[go_sem,aa,fX,ey,U5])<;>(repeat' with_reducible refine Su ?_ ?_)<;>(try(with_reducible refine hK _ ?_;clear hK K)))
|omega)
 ·(refine zE2 Yj ?_;(try simp(disch:=omega) only[go_sem,aa,I,B,S,zj]))
  refine(iM fun h2=>?_).symm;obtain⟨a1,a2,a3⟩:=(bi.1 h2).2.2.1 i (by assumption);obtain⟨b1,b2,b3,b4,b5,b6,b7,b8,b9⟩:=((bi.1 h2).2.2.2 i (by assumption)).1;unfold nd at a1 a2 a3 b1 b2 b3 b4 b5 b6 b7 b8 b9;rcases hc with((((((((((h|h)|h)|h)|h)|h)|h)|h)|h)|h)|h)|h
  ·rw[a1] at h;cases h
  ·omega
  ·exact h.2 (a3 (by omega))
  all_goals omega
 ·(refine zE2 Yj ?_;(try simp(disch:=omega) only[go_sem,aa,I,B,S,zj]))
  exact Pq (i:=i) (by assumption) hg' hc
 ·(refine zE2 Yj ?_;(try simp(disch:=omega) only[go_sem,aa,I,B,S,zj]))
  exact Ox (i:=i) (by assumption) (by assumption) hc
 ·refine⟨(i+1,_),Es hT (by assumption) (by assumption) (Fn (by assumption)) (by assumption) hc,by simp only;omega,?_⟩
  have hw1:=EX hT h400 (by assumption);unfold nd at hw1 ⊢;exact zFr [0,1] @hw1
 ·refine⟨(i+1,m),Ff hT hhead (by assumption) (by assumption) (Fn (by assumption)) hc,by simp only;omega,?_⟩
  exact zFr [0,1] Yj
 ·(refine zE2 Yj ?_;(try simp(disch:=omega) only[go_sem,aa,I,B,S,zj]))
  exact Ox (i:=i) (by assumption) (by assumption) hc
 ·refine⟨(i+1,_),Es hT (by assumption) (by assumption) (Ba hg') (by assumption) hc,by simp only;omega,?_⟩
  have hw1:=EX hT h400 (by assumption);unfold nd at hw1 ⊢;exact zFr [0,1] @hw1
 ·refine⟨(i+1,m),Ff hT hhead (by assumption) (by assumption) (Ba hg') hc,by simp only;omega,?_⟩
  exact zFr [0,1] Yj
 obtain rfl:i=t.nodes.length:=by omega
 clear hc;refine W9 (ι:=Nat) (fun k=>k≤t.nodes.length∧∀ j,j<k→(nd t j).stat.kids=lL m (nd t j).path) (fun k=>t.nodes.length-k) [5,206,207] (fun k=>[(208,I k)]) (fun k=>[.cells [.d (.int .i64 t.zxid),.d (.sl 9 (t.nodes.map XU.row)),.d (.sl 1 (t.sessions.map aY))],.map m]) 0 ?_ ?_ ?_
 ·exact⟨by omega,fun j hj=>by omega⟩
 ·simp only[go_sem];exact zSm Yj
 intro j ⟨hj,hj2⟩;simp only[go_sem]
 (refine zW qw zn Yj (z3 ?_ ?_ ?_)<;>(repeat with_reducible intro hc))
 ·(refine zE2 Yj ?_;(try simp(disch:=omega) only[go_sem,aa,I,B,S,zj]))
  exact N2 (k:=j) hT (by assumption) hc
 ·refine⟨j+1,⟨by omega,fun q hq=>?_⟩,by omega,?_⟩
  ·by_cases e:q=j
   ·subst e;exact hc
   ·exact hj2 q (by omega)
  exact zFr [0,1] Yj
 ·(refine zE2 Yj ?_;(try simp(disch:=omega) only[go_sem,aa,I,B,S,zj]))
  exact(FX hhead hss hT (fun q hq=>hj2 q (by omega))).symm
theorem P3(l:List Int)(x:Int)(h:l.length*8≤140737488351232):ab prog [] 224 [.d (.sl 1 (l.map aY)),I x] (ret (B (decide (x∈l)))):=by
 refine zJ func224 ntmps224 results224 ?_;simp only[go_sem];refine zW qw zn Yj (z1 ?_);refine Xd (ι:=Nat) (fun k=>k≤l.length∧∀ j,j<k→l.getD j default≠x) (fun k=>l.length-k) [1,7,8] (fun k=>[(9,I k)]) 0 ?_ (by simp(disch:=omega) only[go_sem,aa,SI]) ?_
 ·exact⟨by omega,fun j hj=>by omega⟩
 intro k ⟨hk,hk2⟩;simp only[go_sem]
 (refine zW qw zn Yj (z3 ?_ ?_ ?_)<;>(repeat with_reducible intro hc))
 ·(refine zE2 Yj ?_;(try simp(disch:=omega) only[go_sem,aa,I,B,S,zj]))
  symm;rw[RN,aM l default]
  exact⟨k,by omega,by simp only[*]⟩
 ·refine⟨k+1,⟨by omega,fun j hj=>?_⟩,by omega,?_⟩
  ·by_cases e:j=k
   ·subst e;exact fun e2=>hc (by simp only[*])
   ·exact hk2 j (by omega)
  exact zSm Yj
 ·(refine zE2 Yj ?_;(try simp(disch:=omega) only[go_sem,aa,I,B,S,zj]))
  symm;rw[RR,aM l default]
  rintro⟨j,hj,e⟩
  exact hk2 j (by omega) e
theorem isOpen_c(t:XW)(s:Int)(h:t.sessions.length*8≤140737488351232):ab prog [] 169 [t.av,I s] (ret (B (decide (s∈t.sessions)))):=by refine zJ func169 ntmps169 results169 ?_;simp only[go_sem];refine zW qw (z1 (P3 t.sessions s h)) Yj (z1 ?_);exact zEe Yj
def um(t:XW)(p:List UInt8):Int:=if p∈ar t then(place (ar t) p:Nat) else -1
theorem nv{t:XW}{p:List UInt8}(h:p∈ar t):um t p=(place (ar t) p:Nat):=by unfold um;rw[RJ h]
theorem nodeI_no{t:XW}{p:List UInt8}(h:¬ p∈ar t):um t p=-1:=by unfold um;rw[RI h]
theorem pY(t:XW)(p:List UInt8)(h:t.nodes.length*88≤140737488351232)(hr:aF (ar t)):ab prog [] 163 [t.av,S p] (ret (I (um t p))):=by
 refine zJ func163 ntmps163 results163 ?_;simp only[go_sem];refine zW qw zn Yj (z1 ?_);refine Xd (ι:=Nat) (fun k=>k≤t.nodes.length∧∀ j,j<k→(t.nodes.getD j default).path≠p) (fun k=>t.nodes.length-k) [1,8,9] (fun k=>[(10,I k)]) 0 ?_ (by simp(disch:=omega) only[go_sem,aa,SI]) ?_
 ·exact⟨by omega,fun j hj=>by omega⟩
 intro k ⟨hk,hk2⟩;simp only[go_sem]
 (refine zW qw zn Yj (z3 ?_ ?_ ?_)<;>(repeat with_reducible intro hc))
 ·(refine zE2 Yj ?_;(try simp(disch:=omega) only[go_sem,aa,I,B,S,zj]))
  have hl:k<(ar t).length:=by rw[aK];omega
  have e:=pj hr hl;rw[aR] at e;unfold nd at e;rw[hc] at e;have hm:p∈ar t:=(aM _ [] p).2 ⟨k,hl,by rw[aR];exact hc⟩;rw[nv hm,e]
 ·refine⟨k+1,⟨by omega,fun j hj=>?_⟩,by omega,?_⟩
  ·by_cases e:j=k
   ·subst e;exact hc
   ·exact hk2 j (by omega)
  exact zFr [0] Yj
 ·(refine zE2 Yj ?_;(try simp(disch:=omega) only[go_sem,aa,I,B,S,zj]))
  rw[nodeI_no];rw[aM _ []]
  rintro⟨j,hj,e⟩
  rw[aR] at e;rw[aK] at hj;exact hk2 j (by omega) e
theorem ir(t:XW)(p:List UInt8)(h:t.nodes.length*88≤140737488351232)(hr:aF (ar t)):ab prog [] 99 [t.av,S p] (ret (.tup [(aw t p).1.av,I (aw t p).2])):=by
 by_cases hm:p∈ar t
 ·have hp:=(ag hr hm).1
  rw[aK] at hp;unfold aw;rw[RJ hm];refine zJ func99 ntmps99 results99 ?_;simp only[go_sem]
  (refine zW qw (z1 ((pY t p h hr).re (by rw[nv hm]))) Yj (z1 ?_)<;>(repeat with_reducible intro hc))
  all_goals first|omega|skip
  exact zEe @nd.eq_1
 ·unfold aw
  rw[RI hm];refine zJ func99 ntmps99 results99 ?_;simp only[go_sem]
  (refine zW qw (z1 ((pY t p h hr).re (by rw[nodeI_no hm]))) Yj (z1 ?_)<;>(repeat with_reducible intro hc))
  all_goals first|omega|skip
  exact zEe dfl
theorem CB{t:XW}(hp:∀ x,x∈t.nodes→x.path.length≤1048576)(k:Nat):(t.nodes.getD k default).path.length≤1048576:=by
 by_cases e:k<t.nodes.length
 ·exact hp _ (aZ t.nodes k e)
 ·rw[RG,R9 (by omega)];exact RX _
def dirsR(t:XW)(k:Nat):List (List UInt8):=(List.range t.nodes.length).map fun j=>if j<k then mw t j else[]
theorem BI(t:XW)(k:Nat):(dirsR t k).length=t.nodes.length:=by unfold dirsR;simp
theorem FW(t:XW):List.replicate t.nodes.length [DV.str []]=(dirsR t 0).map srow:=by
 unfold dirsR;apply SR;intro j;simp only[List.getElem?_replicate,RS,Vd,Tj]
 by_cases h:j<t.nodes.length
 ·rw[RJ h,Ub h];rfl
 ·rw[RI h,R9 (by simpa using h)];rfl
theorem Lw(t:XW)(k:Nat):(dirsR t k).set k (splitP (t.nodes.getD k default).path).1.1=dirsR t (k+1):=by
 unfold dirsR;apply SR;intro j;rw[To];simp only[RO,Vl,RS]
 by_cases h:j<t.nodes.length
 ·rw[Ub h]
  by_cases e:k=j
  ·subst e;simp[h,mw,nd]
  ·simp only[e,Tj,Wz]
   congr 1
   by_cases h2:j<k
   ·rw[RJ h2,RJ (by omega)]
   ·rw[RI h2,RI (by omega)]
 ·rw[R9 (l:=List.range _) (by simpa using h)]
  by_cases e:k=j
  ·subst e;simp[h]
  ·simp[e]
theorem vg(t:XW)(j:Nat)(h:j<t.nodes.length):(dirsR t t.nodes.length).getD j []=mw t j:=by unfold dirsR;rw[RG,RS,Ub h];simp[h]
def upN(t:XW)(i k:Nat):Bool:=decide (i=0)||(List.range k).any fun j=>decide ((nd t j).path=mw t i)
theorem Jm(t:XW)(i:Nat):upN t i 0=decide (i=0):=by unfold upN;simp
theorem Cl(t:XW)(i k:Nat):upN t i (k+1)=(upN t i k||decide ((nd t k).path=mw t i)):=by unfold upN;rw[VF,List.any_append,Bool.or_assoc];simp
theorem EU(t:XW)(i:Nat):upN t i t.nodes.length=true↔upB t i:=by
 unfold upN upB;rw[SQ,RN,T1,aM _ []];constructor
 ·rintro(h|⟨j,hj,h⟩)
  ·exact .inl h
  ·rw[RN] at h
   rw[Un] at hj;exact .inr ⟨j,by rw[aK];exact hj,by rw[aR];exact h⟩
 ·rintro(h|⟨j,hj,h⟩)
  ·exact .inl h
  ·rw[aK] at hj
   rw[aR] at h;exact .inr ⟨j,Un.2 hj,by rw[RN];exact h⟩
def P4(t:XW)(i:Nat):Prop:=(((((((((upN t i t.nodes.length=true∧(nd t i).stat.kids=(kidsN t (nd t i).path t.nodes.length:Nat))∧0≤(nd t i).stat.version)∧(nd t i).stat.version<2147483648)∧0≤(nd t i).stat.cversion)∧(nd t i).stat.cversion<2147483648)∧
 0≤(nd t i).stat.czxid)∧(nd t i).stat.czxid≤(nd t i).stat.mzxid)∧(nd t i).stat.czxid≤(nd t i).stat.pzxid)∧(nd t i).stat.mzxid≤t.zxid)∧(nd t i).stat.pzxid≤t.zxid
theorem BA{t:XW}{i:Nat}(h:P4 t i)(ho:(nd t i).stat.owner≠0→(nd t i).stat.owner∈t.sessions∧kidsN t (nd t i).path t.nodes.length=0):pg t (nd t i).stat∧sG t (nd t i).stat∧upB t i∧(nd t i).stat.kids=kidsN t (nd t i).path t.nodes.length:=by obtain⟨⟨⟨⟨⟨⟨⟨⟨⟨⟨h1,h2⟩,h4⟩,h5⟩,h6⟩,h7⟩,h8⟩,h9⟩,h10⟩,h11⟩,h12⟩:=h;refine⟨⟨h4,by omega,h6,by omega,h8,h9,h10,h11,h12⟩,fun h0=>?_,(EU t i).1 h1,h2⟩;obtain⟨a,b⟩:=ho h0;exact⟨a,by rw[h2,b];rfl⟩
theorem cA(t:XW)(hw:t.wf)(hp:∀ x,x∈t.nodes→x.path.length≤1048576):ab prog [] 167 [t.av] (ret (B (aS t))):=by
 have hok:=vn hw;obtain⟨hz,⟨hn,hnw⟩,⟨hs,hsw⟩⟩:=hw;refine zJ func167 ntmps167 results167 ?_;simp only[go_sem]
 (repeat' first
|(with_reducible refine AR.f ?_)
|refine bH (by decide) ?_
|(with_reducible refine AWP.cond rfl ?_ ?_<;>intro hc<;>(try simp only[hcs,R1,Sa,Sb] at hc))
|((first|((first|(with_reducible first|refine zR ?_|refine zQ ?_|refine zD ?_|refine zE ?_|refine zG ?_));intro K hK)|((first|refine zA (ref_zgood_c t.zxid hz) ?_ ?_ ?_ ?_ ?_);(focus exact rfl);(focus exact rfl);iterate 2 (focus((try simp(disch:=omega) only[go_sem,aa])<;>(try omega)<;>fail)))|((first|refine zX (ref_zgood_c t.zxid hz) rfl ?_ ?_);(focus((try simp(disch:=omega) only[go_sem,aa])<;>(try omega)<;>fail)))|((first|(with_reducible refine aunder_i ?_ ?_<;>intro hg)|with_reducible intro hg)<;>(first|(exfalso;simp at hg;done)|(have hg':=hg;(try simp only[hcs,R1,Sa,Sb] at hg');(try simp only[hg])))))<;>(try simp(disch:=omega) only[go_sem,aa])<;>(repeat' with_reducible refine Su ?_ ?_)<;>(try(with_reducible refine hK _ ?_;clear hK K)))
|omega)
 ·(refine zE2 Yj ?_;(try simp(disch:=omega) only[go_sem,aa,I,B,S,zj]))
  refine tg fun⟨a1,a2,a3,a4,a5⟩=>?_
  rcases hc with(((h|h)|h)|h)|h
  ·omega
  ·omega
  ·exact h a3
  ·exact h a4
  ·exact h a5
 rotate_left
 ·simp_all
 ·(refine zE2 Yj ?_;(try simp(disch:=omega) only[go_sem,aa,I,B,S,zj]))
  refine tg fun⟨a1,a2,a3,a4,a5⟩=>?_
  rcases hg' with((h|h)|h)|h
  ·omega
  ·omega
  ·exact h a3
  ·exact h a4
 have hhead:jC t:=⟨by omega,by omega,hc.1.1.2,hc.1.2,hc.2⟩;have h400:t.nodes.length≤400:=by omega
 clear hc hg;refine Xd (ι:=Nat) (fun k=>k≤t.sessions.length∧∀ j,j<k→eK t.sessions j) (fun k=>t.sessions.length-k) [1,48,49] (fun k=>[(50,I k)]) 0 ?_ (by simp(disch:=omega) only[go_sem,aa,SI]) ?_
 ·exact⟨by omega,fun j hj=>by omega⟩
 intro k ⟨hk,hk2⟩;simp only[go_sem]
 (refine zW qw zn @fX (z3 ?_ ?_ ?_)<;>(repeat with_reducible intro hc))
 ·(refine zE2 Yj ?_;(try simp(disch:=omega) only[go_sem,aa,I,B,S,zj]))
  refine E2 (k:=k) (by omega) fun⟨a1,a2,a3⟩=>?_
  rcases hc with(h|h)|h
  ·omega
  ·omega
  ·exact absurd (a3 (by omega)) (by omega)
 ·refine⟨k+1,⟨by omega,fun j hj=>?_⟩,by omega,?_⟩
  ·by_cases e:j=k
   ·subst e;exact⟨hc.1.1,by omega,fun h0=>hc.2.resolve_left (by omega)⟩
   ·exact hk2 j (by omega)
  exact zSm Yj
 have hss:∀ j,j<t.sessions.length→eK t.sessions j:=fun j hj=>hk2 j (by omega)
 clear hk2 hk hc;refine W9 (ι:=Nat) (fun k=>k≤t.nodes.length∧∀ j,j<k→kp t j) (fun k=>t.nodes.length-k) [1,5,81,82] (fun k=>[(83,I k)]) (fun k=>[.cells [.d (.int .i64 t.zxid),.d (.sl 9 (t.nodes.map XU.row)),.d (.sl 1 (t.sessions.map aY))],.rows 1 ((dirsR t k).map srow)]) 0 ?_ ?_ ?_
 ·exact⟨by omega,fun j hj=>by omega⟩
 ·simp only[go_sem,←FW];exact zSm Yj
 intro i ⟨hi,hi2⟩;have hpi:=CB hp i;have hdl:=BI t i;simp only[go_sem]
 (refine zW qw (z2 (bx _ hpi) (bC _ hpi)) (zx @fX (zx @ey (zx @List.append_eq.{0} (zx @xT @fa)))) (z3 ?_ ?_ ?_)<;>(repeat with_reducible intro hc))
 ·(refine zE2 Yj ?_;(try simp(disch:=omega) only[go_sem,aa,I,B,S,zj]))
  refine KD (k:=i) (by assumption) fun⟨a1,a2,a3⟩=>?_
  unfold nd at a1 a2 a3;rcases hc with(h|h)|⟨h0,h⟩
  ·rw[a1] at h;cases h
  ·omega
  ·have h1:=a3 (by omega)
   rcases h with h|h
   ·exact Sw _ (Tk h1 h)
   ·rw[h] at h1;exact Sw _ h1
 ·refine⟨i+1,⟨by omega,fun j hj=>?_⟩,by omega,?_⟩
  ·by_cases e:j=i
   ·subst e;exact⟨hc.1.1,by unfold nd;omega,fun h0=>(hc.2.resolve_left (by omega)) |> fun h=>gN h.1 h.2⟩
   ·exact hi2 j (by omega)
  rw[←Lw t i];exact zFr [0,1] Yj
 obtain rfl:i=t.nodes.length:=by omega
 clear hc;have hT:∀ j,j<t.nodes.length→kp t j:=hi2;clear hi2 hpi hdl;refine W9 (ι:=Nat) (fun k=>k≤t.nodes.length∧∀ j,j<k→pg t (nd t j).stat∧sG t (nd t j).stat∧upB t j∧(nd t j).stat.kids=kidsN t (nd t j).path t.nodes.length) (fun k=>t.nodes.length-k) [1,5,126,127] (fun k=>[(128,I k)]) (fun k=>[.cells [.d (.int .i64 t.zxid),.d (.sl 9 (t.nodes.map XU.row)),.d (.sl 1 (t.sessions.map aY))],.rows 1 ((dirsR t t.nodes.length).map srow)]) 0 ?_ ?_ ?_
 ·exact⟨by omega,fun j hj=>by omega⟩
 ·simp only[go_sem];exact zSm Yj
 intro j ⟨hj,hj2⟩;simp only[go_sem]
 (refine zW qw zn Yj (z2 ?_ ?_)<;>(repeat with_reducible intro hc))
 rotate_left
 ·(refine zE2 Yj ?_;(try simp(disch:=omega) only[go_sem,aa,I,B,S,zj]))
  exact(bi.2 ⟨hhead,hss,hT,fun q hq=>hj2 q (by omega)⟩).symm
 refine W9 (ι:=Nat) (fun k=>k≤t.nodes.length) (fun k=>t.nodes.length-k) [1,5,8,9,126,127,128,137] (fun k=>[(138,I k),(10,I (kidsN t (nd t j).path k)),(11,B (upN t j k))]) (fun k=>[.cells [.d (.int .i64 t.zxid),.d (.sl 9 (t.nodes.map XU.row)),.d (.sl 1 (t.sessions.map aY))],.rows 1 ((dirsR t t.nodes.length).map srow),.cells [S (t.nodes.getD j default).path,S (t.nodes.getD j default).data,I (t.nodes.getD j default).stat.czxid,I (t.nodes.getD j default).stat.mzxid,I (t.nodes.getD j default).stat.pzxid,I (t.nodes.getD j default).stat.version,I (t.nodes.getD j default).stat.cversion,I (t.nodes.getD j default).stat.owner,I (t.nodes.getD j default).stat.kids]]) 0 ?_ ?_ ?_
 ·omega
 ·simp only[go_sem,Dv,Jm];exact zSm @WQ
 intro k hk;have hkn:=BM t (nd t j).path k;have hdl:=BI t t.nodes.length;simp only[go_sem]
 (repeat' first
|(with_reducible refine AR.f ?_)
|refine bH (by decide) ?_
|(with_reducible refine AWP.cond rfl ?_ ?_<;>intro hc<;>(try simp only[hcs,R1,Sa,Sb] at hc))
|((first|((first|(with_reducible first|refine zR ?_|refine zQ ?_|refine zD ?_|refine zE ?_|refine zG ?_));intro K hK)|((first|refine acallH_sc (isOpen_c t _ hs) rfl rfl ?_ ?_ ?_|refine acallQ_sc (isOpen_c t _ hs) rfl rfl ?_ ?_ ?_);iterate 2 (focus((try simp(disch:=omega) only[go_sem,aa,U5,fa,vg])<;>(try omega)<;>fail)))|((first|refine zX (isOpen_c t _ hs) rfl ?_ ?_);(focus((try simp(disch:=omega) only[go_sem,aa,U5,fa,vg])<;>(try omega)<;>fail)))|((first|(with_reducible refine aunder_i ?_ ?_<;>intro hg)|with_reducible intro hg)<;>(first|(exfalso;simp at hg;done)|(have hg':=hg;(try simp only[hcs,R1,Sa,Sb] at hg');(try simp only[hg])))))<;>(try simp(disch:=omega) only[go_sem,aa,U5,fa,vg])<;>(repeat' with_reducible refine Su ?_ ?_)<;>(try(with_reducible refine hK _ ?_;clear hK K)))
|omega)
 ·refine Zq (k+1) ?_
  rw[jA,RJ (show mw t k=(nd t j).path from hc),Cl]
  (refine ax.same ?_;simp(disch:=omega) only[go_sem,aa,Ss,nd,B,I,Wv,Vf])
  congr
 ·refine Zq (k+1) ?_
  rw[jA,RI (show ¬ mw t k=(nd t j).path from hc),Cl]
  (refine ax.same ?_;simp(disch:=omega) only[go_sem,aa,Ss,nd,B,I,Wv,Vf])
  congr
 ·(refine zE2 Yj ?_;(try simp(disch:=omega) only[go_sem,aa,I,B,S,zj]))
  obtain rfl:k=t.nodes.length:=by omega
  refine p6 (k:=j) (by assumption) fun⟨⟨b1,b2,b3,b4,b5,b6,b7,b8,b9⟩,_,hu,hkd⟩=>?_
  rw[←EU] at hu;have hkd':(t.nodes.getD j default).stat.kids=(kidsN t (nd t j).path t.nodes.length:Nat):=hkd;unfold nd at b1 b2 b3 b4 b5 b6 b7 b8 b9;rcases hc with(((((((((h|h)|h)|h)|h)|h)|h)|h)|h)|h)|h
  ·rw[hu] at h;cases h
  ·exact h hkd'
  all_goals omega
 ·(refine zE2 Yj ?_;(try simp(disch:=omega) only[go_sem,aa,I,B,S,zj]))
  obtain rfl:k=t.nodes.length:=by omega
  refine p6 (k:=j) (by assumption) fun⟨_,ho,_,hkd⟩=>?_
  obtain⟨o1,o2⟩:=ho hg';rcases hc with h|h
  ·exact h o1
  ·omega
 ·obtain rfl:k=t.nodes.length:=by omega
  refine⟨j+1,⟨by omega,fun q hq=>?_⟩,by omega,?_⟩
  ·by_cases e:q=j
   ·subst e;exact BA (by assumption) (fun _=>⟨hc.1,by omega⟩)
   ·exact hj2 q (by omega)
  exact zFr [0,1] Yj
 ·obtain rfl:k=t.nodes.length:=by omega
  refine⟨j+1,⟨by omega,fun q hq=>?_⟩,by omega,?_⟩
  ·by_cases e:q=j
   ·subst e;exact BA (by assumption) (fun h=>absurd hg' h)
   ·exact hj2 q (by omega)
  exact zFr [0,1] Yj
theorem EC(t:XW)(hw:t.wf):ab prog [] 217 [t.av] (ret t.av):=by
 obtain⟨hz,⟨hn,hnw⟩,⟨hs,hsw⟩⟩:=hw;refine zJ func217 ntmps217 results217 ?_;simp only[go_sem];refine zW qw zn Yj (z1 ?_)
 all_goals exact zEe Yj
theorem Dk(a b:XW)(ha:a.wf)(hb:b.wf):ab prog [] 62 [a.av,b.av] (ret (B (decide (a=b)))):=by
 obtain⟨hz,⟨hn,hnw⟩,⟨hs,hsw⟩⟩:=ha;obtain⟨kz,⟨kn,knw⟩,⟨ks,ksw⟩⟩:=hb;refine zJ func62 ntmps62 results62 ?_;simp only[go_sem]
 (refine zW qw zn Yj (z2 ?_ ?_)<;>(repeat with_reducible intro hc))
 ·(refine zE2 Yj ?_;(try simp(disch:=omega) only[go_sem,aa,I,B,S,zj]))
  symm;rw[RR];rintro rfl
  simp at hc
 obtain⟨⟨e1,e2⟩,e3⟩:=hc;refine Xd (ι:=Nat) (fun k=>k≤a.nodes.length∧∀ j,j<k→a.nodes.getD j default=b.nodes.getD j default) (fun k=>a.nodes.length-k) [2,3,32] (fun k=>[(33,I k)]) 0 ?_ (by simp(disch:=omega) only[go_sem,aa,SI]) ?_
 ·exact⟨by omega,fun j hj=>by omega⟩
 intro k ⟨hk,hk2⟩;simp only[go_sem]
 (refine zW qw zn Yj (z3 ?_ ?_ ?_)<;>(repeat with_reducible intro hc))
 ·(refine zE2 Yj ?_;(try simp(disch:=omega) only[go_sem,aa,I,B,S,zj]))
  symm;rw[RR];rintro rfl
  simp at hc
 ·refine⟨k+1,⟨by omega,fun j hj=>?_⟩,by omega,?_⟩
  ·by_cases e:j=k
   ·subst e;exact(XU.ext_iff _ _).2 hc
   ·exact hk2 j (by omega)
  exact zSm Yj
 have hnodes:a.nodes=b.nodes:=fP (by omega) fun j hj=>hk2 j (by omega)
 clear hk hk2 hc;refine Xd (ι:=Nat) (fun j=>j≤a.sessions.length∧∀ i,i<j→a.sessions.getD i default=b.sessions.getD i default) (fun j=>a.sessions.length-j) [2,3,50] (fun j=>[(51,I j)]) 0 ?_ (by simp(disch:=omega) only[go_sem,aa,SI]) ?_
 ·exact⟨by omega,fun j hj=>by omega⟩
 intro j ⟨hj,hj2⟩;simp only[go_sem]
 (refine zW qw zn Yj (z3 ?_ ?_ ?_)<;>(repeat with_reducible intro hc))
 ·(refine zE2 Yj ?_;(try simp(disch:=omega) only[go_sem,aa,I,B,S,zj]))
  symm;rw[RR];rintro rfl
  simp at hc
 ·refine⟨j+1,⟨by omega,fun i hi=>?_⟩,by omega,?_⟩
  ·by_cases e:i=j
   ·subst e;exact hc
   ·exact hj2 i (by omega)
  exact zSm Yj
 ·(refine zE2 Yj ?_;(try simp(disch:=omega) only[go_sem,aa,I,B,S,zj]))
  symm;rw[RN,XW.ext_iff]
  exact⟨e1,hnodes,fP (by omega) fun i hi=>hj2 i (by omega)⟩
theorem pf:aS t00=true:=by decide +kernel
theorem qTw0:Pls [XS [0,1,3] (.fork 2 (XS [4,6,5,7,8,9] .done) 4 (XS [2,6,5,7,8,9] .done))]:=pls _
attribute [go_sem] ntmps76 results76
def kZ(t:XW)(x:ATxn)(there:Int):Int:=
 if there=0 then 8 else if ¬ (aw t (splitP x.path).1.1).2=0 then(aw t (splitP x.path).1.1).2 else if ¬ (aw t (splitP x.path).1.1).1.stat.owner=0 then 11
 else if ¬ x.owner=0∧¬ x.owner=x.session then 12 else if 400≤t.nodes.length then 6 else 0
theorem NW(t:XW)(x:ATxn)(there:Int)(h:t.nodes.length*88≤140737488351232)(hp:okS x.path)(hr:aF (ar t)):ab prog [] 120 [t.av,x.av,.d (.int .i64 there)] (ret (I (kZ t x there))):=by
 unfold kZ;refine zJ func120 ntmps120 results120 ?_;simp only[go_sem]
 (refine zW qw (z2 (split_c x.path hp) (lF t (splitP x.path).1.1 h hr)) Yj (zc ?_ (zc ?_ (z4 ?_ ?_ ?_ ?_)))<;>(repeat with_reducible intro hc))
 all_goals(refine zE2 Yj ?_;(try simp(disch:=omega) only[go_sem,aa,I,B,S,zj]))
 all_goals first|(simp[*];done)|(simp only[*,Tp,R5,S9,Tj];split<;>first|rfl|omega|(exfalso;rename_i h;revert h;simp_all;done)|(exfalso;omega))|skip
def bw(t:XW)(x:ATxn):Int:=
 if aS t=false then 3 else if ¬ aT x=0 then aT x else if x.zxid≤t.zxid then 13
 else if x.op=1 then(if x.session∈t.sessions then 8 else 0)
 else if ¬ x.session∈t.sessions then 12
 else if x.op=3 then kZ t x (aw t x.path).2
 else if x.op=4 then(if(aw t x.path).2=0∧0<(aw t x.path).1.stat.kids then 10 else(aw t x.path).2)
 else if x.op=5 then(if(aw t x.path).2=0∧¬ x.version=(aw t x.path).1.stat.version+1 then 9 else(aw t x.path).2)
 else 0
theorem nG(t:XW)(x:ATxn)(hw:t.wf)(hp:okS x.path)(hd:okS x.data):ab prog [] 67 [t.av,x.av] (ret (I (bw t x))):=by
 obtain⟨h1,h2⟩:t.nodes.length*88≤140737488351232∧t.sessions.length*8≤140737488351232:=⟨hw.2.1.1,hw.2.2.1⟩;unfold bw
 by_cases hg:aS t=true
 ·have hr:=aE hg
  have hri:=gh hg
  have hv:-1000≤(aw t x.path).1.stat.version∧(aw t x.path).1.stat.version≤2147483647:=by
   unfold aw;split
   ·rename_i hm
    have hpl:=(ag hr hm).1;rw[aK] at hpl;obtain⟨b1,b2,_⟩:=((bi.1 hg).2.2.2 _ hpl).1;exact⟨by simp only;omega,b2⟩
   ·exact⟨by decide,by decide⟩
  refine zJ func67 ntmps67 results67 ?_;simp only[go_sem]
  (refine zW qw (zc ((lk t hw).re (congrArg B hg)) (z4 (sM x hp hd) (open_c t x.session h2 hri) (lF t x.path h1 hr) (NW t x _ h1 hp hr))) Yj (zc ?_ (zc ?_ (zc ?_ (zc ?_ (zc ?_ (zc ?_ (zc ?_ (z4 ?_ ?_ ?_ ?_))))))))<;>(repeat with_reducible intro hc))
  all_goals(refine zE2 Yj ?_;(try simp(disch:=omega) only[go_sem,aa,I,B,S,zj]))
  all_goals(repeat' split)
  all_goals first|rfl|(exfalso;omega)|(exfalso;simp_all;done)
 ·have hg2:aS t=false:=by simpa using hg
  refine zJ func67 ntmps67 results67 ?_;simp only[go_sem]
  (refine zW qw (z1 ((lk t hw).re (congrArg B hg2))) Yj (z1 ?_)<;>(repeat with_reducible intro hc))
  all_goals(refine zE2 Yj ?_;(try simp(disch:=omega) only[go_sem,aa,I,B,S,zj]))
  rw[RJ hg2]
theorem AA(l:List XU)(h:l.length*88≤140737488351232):ab prog [] 121 [.d (.sl 9 (l.map XU.row))] (own 9 (l.map XU.row)):=by
 refine zJ func121 ntmps121 results121 ?_;simp only[go_sem]
 (repeat' first
|(with_reducible refine AR.f ?_)
|refine bH (by decide) ?_
|(with_reducible refine AWP.cond rfl ?_ ?_<;>intro hc<;>(try simp only[hcs,R1,Sa,Sb] at hc))
|((first|((first|(with_reducible first|refine zR ?_));intro K hK)|((first|(with_reducible refine aunder_i ?_ ?_<;>intro hg)|with_reducible intro hg)<;>(first|(exfalso;simp at hg;done)|(have hg':=hg;(try simp only[hcs,R1,Sa,Sb] at hg');(try simp only[hg])))))<;>(try simp(disch:=omega) only[go_sem,aa])<;>(repeat' with_reducible refine Su ?_ ?_)<;>(try(with_reducible refine hK _ ?_;clear hK K)))
|omega)
 ·have e:l.length=0:=by
   rcases TC l.length with h0|h0
   ·exact h0
   ·rw[hg h0] at hc;simp at hc
  rw[gU e]
  (refine m6 (by first|exact .inl rfl|exact .inr rfl) rfl ?_ ?_<;>simp(disch:=omega) only[go_sem,aa])
 ·(refine mI 1 (by first|exact .inl rfl|exact .inr rfl) rfl ?_ rfl rfl ?_<;>(try simp(disch:=omega) only[go_sem,aa,RO]))
theorem Dm(l:List Int)(h:l.length*8≤140737488351232):ab prog [] 122 [.d (.sl 1 (l.map aY))] (own 1 (l.map aY)):=by
 refine zJ func122 ntmps122 results122 ?_;simp only[go_sem]
 (repeat' first
|(with_reducible refine AR.f ?_)
|refine bH (by decide) ?_
|(with_reducible refine AWP.cond rfl ?_ ?_<;>intro hc<;>(try simp only[hcs,R1,Sa,Sb] at hc))
|((first|((first|(with_reducible first|refine zR ?_));intro K hK)|((first|(with_reducible refine aunder_i ?_ ?_<;>intro hg)|with_reducible intro hg)<;>(first|(exfalso;simp at hg;done)|(have hg':=hg;(try simp only[hcs,R1,Sa,Sb] at hg');(try simp only[hg])))))<;>(try simp(disch:=omega) only[go_sem,aa])<;>(repeat' with_reducible refine Su ?_ ?_)<;>(try(with_reducible refine hK _ ?_;clear hK K)))
|omega)
 ·have e:l.length=0:=by
   rcases TC l.length with h0|h0
   ·exact h0
   ·rw[hg h0] at hc;simp at hc
  rw[gU e]
  (refine m6 (by first|exact .inl rfl|exact .inr rfl) rfl ?_ ?_<;>simp(disch:=omega) only[go_sem,aa])
 ·(refine mI 1 (by first|exact .inl rfl|exact .inr rfl) rfl ?_ rfl rfl ?_<;>(try simp(disch:=omega) only[go_sem,aa,RO]))
theorem kA(t:XW)(h:t.nodes.length*88≤140737488351232)(h2:t.sessions.length*8≤140737488351232):ab prog [] 68 [t.av] (dr (.agg [I t.zxid,.osl 0 9 0 t.nodes.length,.osl 1 1 0 t.sessions.length]) [.rows 9 (t.nodes.map XU.row),.rows 1 (t.sessions.map aY)]):=by
 refine zJ func68 ntmps68 results68 ?_;simp only[go_sem];refine zW qw (z3 qTw0 (AA _ h) (Dm _ h2)) Yj (z2 ?_ ?_)
 all_goals(refine zOp Yj ?_;simp(disch:=omega) only[go_sem,aa];refine Xc ?_ (af.same ⟨rfl,rfl⟩);refine zV [2,3] rfl rfl rfl rfl ?_ ?_<;>simp(disch:=omega) only[go_sem,aa,UC,UD])
def dN(n:XU):Bool:=decide (2147483647<n.stat.cversion)
def Cv(l:List XU):Int:=if l.any dN=true then(l.findIdx dN:Nat) else -1
theorem J6{l:List XU}{k:Nat}(h:k<l.length)(h1:dN (l.getD k default)=true)(h2:∀ j,j<k→dN (l.getD j default)=false):Cv l=(k:Nat):=by
 rw[RG,RH h] at h1
 have e:l.findIdx dN=k:=(VE h).2 ⟨h1,fun j hj=>by
  have:=h2 j hj
  rwa[RG,RH (by omega)] at this⟩
 unfold Cv;rw[RJ (T1.2 ⟨l[k],SD h,h1⟩),e]
theorem nS{l:List XU}(h2:∀ j,j<l.length→dN (l.getD j default)=false):l.any dN=false∧Cv l=-1:=by
 have e:l.any dN=false:=by
  rw[Vp];intro x hx;obtain⟨j,hj,rfl⟩:=Tm hx
  have:=h2 j hj;rw[RG,RH hj] at this;simpa using this
 exact⟨e,by unfold Cv;rw[e];rfl⟩
theorem Io(l:List XU)(h:l.length*88≤140737488351232):ab prog [] 133 [.d (.sl 9 (l.map XU.row)),.d (.sc (.func (.func 76) #[] #[]))] (ret (I (Cv l))):=by
 refine zJ func133 ntmps133 results133 ?_;simp only[go_sem];refine zW qw zn Yj (z1 ?_);refine Xd (ι:=Nat) (fun k=>k≤l.length∧∀ j,j<k→dN (l.getD j default)=false) (fun k=>l.length-k) [0,1,7] (fun k=>[(8,I k)]) 0 ?_ (by simp(disch:=omega) only[go_sem,aa,SI]) ?_
 ·exact⟨by omega,fun j hj=>by omega⟩
 intro k ⟨hk,hk2⟩;simp only[go_sem]
 (refine zW qw (z1 (ic func76)) Yj (z3 ?_ ?_ ?_)<;>(repeat with_reducible intro hc))
 ·rw[J6 (by assumption) (by unfold dN;rw[RN];exact hc) hk2]
  exact zEe Yj
 ·refine⟨k+1,⟨by omega,fun j hj=>?_⟩,by omega,?_⟩
  ·by_cases e:j=k
   ·subst e;unfold dN;rw[RR];omega
   ·exact hk2 j (by omega)
  exact zFr [] Yj
 ·rw[(nS (fun j hj=>hk2 j (by omega))).2]
  exact zEe Yj
theorem L6(l:List XU):decide (0≤Cv l)=l.any dN:=by
 unfold Cv;split
 ·rename_i h;rw[h,RN];omega
 ·rename_i h;rw[show l.any dN=false from by simpa using h];rfl
theorem jB(l:List XU)(h:l.length*88≤140737488351232):ab prog [] 75 [.d (.sl 9 (l.map XU.row)),.d (.sc (.func (.func 76) #[] #[]))] (ret (B (l.any dN))):=by rw[←L6];refine zJ func75 ntmps75 results75 ?_;simp only[go_sem];refine zW qw (z1 (Io l h)) Yj (z1 ?_);exact zEe Yj
theorem qTp0:Pls [XS [0,1,2,3,4,6,7,8,9,10,11,12,13,14,15,16,17,18,19,20] (.fork 5 (XS [21,22,23,24,25,26] .done) 21 (XS [5,22,23,24,25,26] .done)),XS [0,1,2,3,5,6,7] (.fork 4 (XS [8,9,10,11,12] .done) 8 (XS [4,9,10,11,12] .done)),XS [0,1,2,3,4,5,6] (.fork 7 (XS [8,9,10] .done) 8 (XS [7,9,10] .done))]:=pls _
theorem qTp1:Pls [XS [0,1,2,3,4,5,6] (.fork 7 (XS [8,9,10] .done) 8 (XS [7,9,10] .done))]:=pls _
theorem qTp2:Pls [XS [0,1,2,3,4,5,6,7,8,9,10] .done,XS [0,1,2,3,4,5,6,7,8,9,10,11,12,13,14,16,17,18] (.fork 15 (XS [19,20,21,22,23] .done) 19 (XS [15,20,21,22,23] .done)),XS [0,1,2,3,5,6,7] (.fork 4 (XS [8,9,10,11,12] .done) 8 (XS [4,9,10,11,12] .done)),XS [0,1,2,3,4,5,6] (.fork 7 (XS [8,9,10] .done) 8 (XS [7,9,10] .done))]:=pls _
theorem qTp3:Pls [XS [0,1,2,3,4,6,7,8] (.fork 5 (XS [9,10,11,12,13,14] .done) 9 (XS [5,10,11,12,13,14] .done)),XS [0,1,2,3,4,5,6] (.fork 7 (XS [8,9,10] .done) 8 (XS [7,9,10] .done))]:=pls _
attribute [go_sem] ntmps72 results72 ntmps73 results73 ntmps128 results128
def pathsN(ns:List XU):List (List UInt8):=ns.map XU.path
def dirP(p:List UInt8):List UInt8:=(splitP p).1.1
def kidF(more z:Int)(n:XU):XU:=⟨n.path,n.data,⟨n.stat.czxid,n.stat.mzxid,z,n.stat.version,IntKind.i64.wrap (n.stat.cversion+1),n.stat.owner,IntKind.i64.wrap (n.stat.kids+more)⟩⟩
def kj(ns:List XU)(p:List UInt8)(more z:Int):List XU:=if dirP p∈pathsN ns then ns.set (place (pathsN ns) (dirP p)) (kidF more z (ns.getD (place (pathsN ns) (dirP p)) default)) else ns
def fA(ns:List XU)(p:List UInt8)(z:Int):List XU:=kj (ns.eraseIdx (place (pathsN ns) p)) p (-1) z
def mkN(x:ATxn):XU:=⟨x.path,x.data,⟨x.zxid,x.zxid,x.zxid,0,0,x.owner,0⟩⟩
def qk(ns:List XU)(x:ATxn):List XU:=kj (ns.insertIdx (place (pathsN ns) x.path) (mkN x)) x.path 1 x.zxid
def setF(x:ATxn)(n:XU):XU:=⟨n.path,x.data,⟨n.stat.czxid,x.zxid,n.stat.pzxid,x.version,n.stat.cversion,n.stat.owner,n.stat.kids⟩⟩
def setN(ns:List XU)(x:ATxn):List XU:=ns.set (place (pathsN ns) x.path) (setF x (ns.getD (place (pathsN ns) x.path) default))
def eR(p:List UInt8):List XZ:=[⟨2,p⟩,⟨4,dirP p⟩]
def aQ(t:XW)(s z:Int):Nat→List XU×List XZ
 |0=>(t.nodes,[])
 |k+1=>if(t.nodes.getD k default).stat.owner=s then(fA (aQ t s z k).1 (t.nodes.getD k default).path z,(aQ t s z k).2++eR (t.nodes.getD k default).path) else aQ t s z k
def cG(t:XW)(x:ATxn):XW×List XZ:=
 if x.op=1 then(⟨x.zxid,t.nodes,t.sessions.insertIdx (bf t.sessions x.session) x.session⟩,[])
 else if x.op=2 then(⟨x.zxid,(aQ t x.session x.zxid t.nodes.length).1,t.sessions.eraseIdx (bf t.sessions x.session)⟩,(aQ t x.session x.zxid t.nodes.length).2)
 else if x.op=3 then(⟨x.zxid,qk t.nodes x,t.sessions⟩,[⟨1,x.path⟩,⟨4,dirP x.path⟩])
 else if x.op=4 then(⟨x.zxid,fA t.nodes x.path x.zxid,t.sessions⟩,eR x.path)
 else(⟨x.zxid,setN t.nodes x,t.sessions⟩,[⟨3,x.path⟩])
def ah(t:XW)(x:ATxn):XW×List XZ×Int:=
 if ¬ bw t x=0 then(default,[],bw t x) else if(cG t x).1.nodes.any dN=true then(default,[],6) else((cG t x).1,(cG t x).2,0)
theorem mJ{t:XW}{x:ATxn}(h:¬ bw t x=0):ah t x=(default,[],bw t x):=by unfold ah;rw[RJ h]
theorem cU{t:XW}{x:ATxn}(h:bw t x=0)(h2:(cG t x).1.nodes.any dN=true):ah t x=(default,[],6):=by unfold ah;rw[RI (fun h'=>h' h),RJ h2]
theorem ez{t:XW}{x:ATxn}(h:bw t x=0)(h2:(cG t x).1.nodes.any dN=false):ah t x=((cG t x).1,(cG t x).2,0):=by unfold ah;rw[RI (fun h'=>h' h),RI (by rw[h2];decide)]
theorem fk{t:XW}{p:List UInt8}:(aw t p).2=0↔p∈ar t:=by
 by_cases h:p∈ar t
 ·unfold aw;rw[RJ h];exact⟨fun _=>h,fun _=>rfl⟩
 ·unfold aw;rw[RI h];exact⟨fun h'=>(by cases h'),fun h'=>absurd h' h⟩
theorem kS{t:XW}{p:List UInt8}(h:¬ p∈ar t):(aw t p).2=7:=by unfold aw;rw[RI h]
theorem cm{t:XW}{x:ATxn}(h:bw t x=0):aS t=true∧aT x=0∧t.zxid<x.zxid∧(x.op=1→¬ x.session∈t.sessions)∧(¬ x.op=1→x.session∈t.sessions)∧
  (x.op=3→¬ x.path∈ar t∧dirP x.path∈ar t∧t.nodes.length<400)∧(x.op=4→x.path∈ar t∧(aw t x.path).1.stat.kids≤0)∧(x.op=5→x.path∈ar t):=by
 unfold bw at h
 by_cases a1:aS t=true
 case neg=>rw[RJ (by simpa using a1)] at h;cases h
 rw[RI (by simp[a1])] at h
 by_cases a2:aT x=0
 case neg=>rw[RJ a2] at h;exact absurd h a2
 rw[RI (fun h=>h a2)] at h
 by_cases a3:x.zxid≤t.zxid
 ·rw[RJ a3] at h;cases h
 rw[RI a3] at h
 have a5:¬ x.op=1→x.session∈t.sessions:=fun o=>by
  rw[RI o] at h
  by_cases m:x.session∈t.sessions
  ·exact m
  ·rw[RJ m] at h;cases h
 refine⟨a1,a2,by omega,fun o=>?_,a5,fun o=>?_,fun o=>?_,fun o=>?_⟩
 ·rw[RJ o] at h
  intro m;rw[RJ m] at h;cases h
 ·rw[RI (by omega),RI (fun h=>h (a5 (by omega))),RJ o] at h
  unfold kZ at h
  by_cases q1:(aw t x.path).2=0
  ·rw[RJ q1] at h;cases h
  rw[RI q1] at h
  by_cases q2:(aw t (splitP x.path).1.1).2=0
  case neg=>rw[RJ q2] at h;exact absurd h q2
  rw[RI (fun h=>h q2)] at h;split at h
  ·cases h
  ·split at h
   ·cases h
   ·split at h
    ·cases h
    ·exact⟨fun m=>q1 (fk.2 m),fk.1 q2,by omega⟩
 ·rw[RI (by omega),RI (fun h=>h (a5 (by omega))),RI (by omega),RJ o] at h
  split at h
  ·cases h
  ·rename_i q;exact⟨fk.1 h,by omega⟩
 ·rw[RI (by omega),RI (fun h=>h (a5 (by omega))),RI (by omega),RI (by omega),RJ o] at h
  split at h
  ·cases h
  ·exact fk.1 h
theorem dq{x:ATxn}(h:aT x=0):1≤x.op∧x.op≤5∧1≤x.session∧wc x=false:=by
 by_cases h1:x.op<1∨5<x.op
 ·rw[ql h1] at h;cases h
 by_cases h2:lO x=true
 case neg=>rw[ga (by omega) h2] at h;cases h
 by_cases h3:256<x.data.length
 ·rw[oU (by omega) h2 h3] at h;cases h
 rw[uT (by omega) h2 (by omega)] at h;refine⟨by omega,by omega,((eF x).1 h2).2.1.1,?_⟩;cases e:wc x
 ·rfl
 ·rw[e,RJ rfl] at h;cases h
theorem lN{x:ATxn}(h:aT x=0)(ho:3≤x.op∧x.op≤4):br x.path=true∧x.path≠[47]:=by
 obtain⟨_,_,_,hb⟩:=dq h;unfold wc at hb;rw[RI (by omega)] at hb;split at hb
 ·simp at hb;exact⟨hb.1,hb.2.1⟩
 ·rw[RJ (by omega)] at hb;simp at hb;exact⟨hb.1,hb.2.1⟩
theorem pl(ns:List XU)(p:List UInt8)(m z:Int):(kj ns p m z).length=ns.length:=by unfold kj;split<;>simp
theorem yt{l:List (List UInt8)}{i:Nat}{x y:List UInt8}(h:i≤l.length):y∈l.insertIdx i x↔y=x∨y∈l:=T0 h
theorem nk{l:List (List UInt8)}{key:List UInt8}(hr:aF l)(hm:¬ key∈l):aF (l.insertIdx (place l key) key):=by
 have hp:=eT l key;have lo:∀ j,j<place l key→l.getD j []<key:=fun j hj=>by have:=Uh (p:=fun x=>!decide (x<key)) (xs:=l) hj;rw[RG,RH (by omega)];simpa using this
 have hi:∀ j,place l key≤j→j<l.length→key<l.getD j []:=fun j h1 h2=>by
  have a:¬ l.getD (place l key) []<key:=by have:=UA (p:=fun x=>!decide (x<key)) (xs:=l) (w:=(by unfold place at h1;omega));rw[SY,RR] at this;rw[RG,RH (by omega)];exact this
  have b:key<l.getD (place l key) []:=gN a fun e=>hm (by rw[←e];exact bu _ _ (by omega))
  by_cases e:place l key=j
  ·rw[←e];exact b
  ·exact Tk b (aV hr (by omega) h2)
 generalize place l key=p at *
 intro k hk;rw[dD _ _ _ hp] at hk;have gt (q:Nat) (hq:p<q):(l.insertIdx p key).getD q []=l.getD (q-1) []:=by rw[cT _ _ _ hp,RG,RT (by rw[RV];omega),RV,SC hp,show q-p=(q-p-1)+1 from by omega,Tt,SM,RG];congr 2;omega
 rcases TR (k+1) p with h|h|h
 ·rw[dK _ _ _ _ _ hp (by omega),dK _ _ _ _ _ hp (by omega)];exact hr k (by omega)
 ·subst h
  rw[dK _ _ _ _ _ hp (by omega),gu _ _ _ _ hp];exact lo k (by omega)
 ·rw[gt _ h,TD]
  by_cases e:k=p
  ·subst e;rw[gu _ _ _ _ hp];exact hi _ (RP _) (by omega)
  ·rw[gt _ (by omega)]
   have:=hr (k-1) (by omega);rwa[show k-1+1=k from by omega] at this
theorem gi{l:List (List UInt8)}(hr:aF l)(i:Nat):aF (l.eraseIdx i):=by
 by_cases h:i<l.length
 ·intro k hk
  rw[cP _ _ h] at hk;have g (q:Nat):(l.eraseIdx i).getD q []=if q<i then l.getD q [] else l.getD (q+1) []:=by rw[RG,List.getElem?_eraseIdx];split<;>rw[RG]
  rw[g,g]
  split<;>split
  ·exact hr k (by omega)
  ·exact aV hr (by omega) (by omega)
  ·omega
  ·exact hr (k+1) (by omega)
 ·rw[VZ (by omega)];exact hr
theorem lH(ns:List XU)(i:Nat)(n:XU):pathsN (ns.insertIdx i n)=(pathsN ns).insertIdx i n.path:=by unfold pathsN;exact(kW XU.path ns i n).symm
theorem cq(ns:List XU)(i:Nat):pathsN (ns.eraseIdx i)=(pathsN ns).eraseIdx i:=by unfold pathsN;exact(dS XU.path ns i).symm
theorem vE(ns:List XU)(i:Nat)(n:XU)(h:n.path=(ns.getD i default).path):pathsN (ns.set i n)=pathsN ns:=by
 unfold pathsN;apply SR;intro j;rw[RS,RS,To];split
 ·rename_i e;subst e
  split
  ·rename_i h2;rw[RG,RH h2] at h;rw[RH h2];simp[h]
  ·rename_i h2;rw[R9 (by omega)]
 ·rfl
theorem oN(ns:List XU)(p:List UInt8)(m z:Int):pathsN (kj ns p m z)=pathsN ns:=by
 unfold kj;split
 ·exact vE _ _ _ rfl
 ·rfl
theorem ao(ns:List XU):(pathsN ns).length=ns.length:=by unfold pathsN;simp
theorem Dc{s:List UInt8}(hg:br s=true)(h:s≠[47]):dirP s≠s:=by
 rcases lI hg with e|⟨ps,p,h1,h2,h3,_⟩
 ·exact absurd e h
 ·unfold dirP
  rw[h2,kY h1 h3];intro e
  have:=congrArg dQ e;rw[iB h1,iB (fun q hq=>h1 q (Sp.2 (.inl hq)))] at this
  have:=congrArg List.length this;simp at this
theorem gP{l:List (List UInt8)}{i:Nat}{y:List UInt8}(h:y∈l)(hy:l.getD i []≠y):y∈l.eraseIdx i:=by
 by_cases hi:i<l.length
 ·rw[eQ,Sp]
  have:l=l.take i++l.getD i []::l.drop (i+1):=by rw[RG,RH hi];simp
  rw[this,Sp,RW] at h;rcases h with h|h|h
  ·exact .inl h
  ·exact absurd h.symm hy
  ·exact .inr h
 ·rw[VZ (by omega)];exact h
theorem yq{t:XW}(hg:aS t=true){p:List UInt8}(hm:p∈ar t)(h:p≠[47]):dirP p∈ar t∧dirP p≠p:=by
 have hr:=aE hg;have hpl:=(ag hr hm).1;have hpe:=(ag hr hm).2;rw[aK] at hpl;rw[aR] at hpe;obtain⟨_,_,a,b⟩:=bi.1 hg;have hgp:=(a _ hpl).1;rw[hpe] at hgp;refine⟨?_,Dc hgp h⟩;rcases(b _ hpl).2.2.1 with e|e
 ·rw[e,(cu hg).2.2.1] at hpe;exact absurd hpe.symm h
 ·unfold mw at e;rw[hpe] at e;exact e
theorem lm(z:Int)(ns:List XU)(ss:List Int)(key:List UInt8)(h:ns.length*88≤140737488351232)(hr:aF (pathsN ns)):ab prog [] 74 [.agg [I z,.d (.sl 9 (ns.map XU.row)),.d (.sl 1 (ss.map aY))],S key] (ret (.tup [I (place (pathsN ns) key),B (decide (key∈pathsN ns))])):=
 yx ⟨z,ns,ss⟩ key h hr
theorem xw{l:List Int}{key:Int}(hr:fw l)(h:key∈l):bf l key<l.length:=by
 obtain⟨k,hk,e⟩:=(aM l default key).1 h
 have:bf l key=k:=rr (by omega) (fun j hj=>by rw[←e];exact fe hr hj hk) (fun _=>by rw[e];omega);omega
theorem EA{l:List Int}(h:∀ k,k<l.length→eK l k):∀ k,k<l.length→((k:Nat):Int)+1≤l.getD k default
 |0,hk=>by have:=(h 0 hk).1;omega
 | k+1,hk=>by
   have a:=EA h k (by omega);have b:=(h (k+1) hk).2.2 (by omega);rw[TD] at b;omega
theorem mA{t:XW}(hg:aS t=true):t.sessions.length≤2147483647:=by
 have h:=(bi.1 hg).2.1;rcases TC t.sessions.length with e|e
 ·omega
 ·have a:=EA h (t.sessions.length-1) (by omega)
  have b:=(h (t.sessions.length-1) (by omega)).2.1;omega
theorem JN(t:XW)(x:ATxn)(hw:t.wf)(hp:okS x.path)(hd:okS x.data)(h0:bw t x=0)(o3:x.op=3):ab prog [] 32 [t.av,x.av] (ret (.tup [(ah t x).1.av,.d (.sl 2 ((ah t x).2.1.map XZ.row)),I (ah t x).2.2])):=by
 have hwc:=nG t x hw hp hd;obtain⟨g1,g2,g3,g4,g5,g6,g7,g8⟩:=cm h0;obtain⟨h1,h2⟩:t.nodes.length*88≤140737488351232∧t.sessions.length*8≤140737488351232:=⟨hw.2.1.1,hw.2.2.1⟩;have hcp:=kA t h1 h2;have h400:t.nodes.length≤400:=(cu g1).2.1;rw[h0] at hwc;have hr:aF (pathsN t.nodes):=aE g1;obtain⟨m1,m2,hlt⟩:=g6 o3;have hf1:=lm x.zxid t.nodes t.sessions x.path h1 hr;have hpl:place (pathsN t.nodes) x.path≤(t.nodes.map XU.row).length:=by have:=eT (pathsN t.nodes) x.path;rw[ao] at this;rw[RO];exact this
 have hpl2:place (pathsN t.nodes) x.path≤t.nodes.length:=by rw[RO] at hpl;exact hpl
 have hdone:(cG t x)=(⟨x.zxid,qk t.nodes x,t.sessions⟩,[⟨1,x.path⟩,⟨4,dirP x.path⟩]):=by unfold cG;rw[RI (by omega),RI (by omega),RJ o3]
 generalize hN:t.nodes.insertIdx (place (pathsN t.nodes) x.path) (⟨x.path,x.data,⟨x.zxid,x.zxid,x.zxid,0,0,x.owner,0⟩⟩:XU)=ns1;have hN':t.nodes.insertIdx (place (pathsN t.nodes) x.path) (mkN x)=ns1:=hN;have hl1:ns1.length=t.nodes.length+1:=by rw[←hN,dD _ _ _ hpl2]
 have hp1:pathsN ns1=(pathsN t.nodes).insertIdx (place (pathsN t.nodes) x.path) x.path:=by rw[←hN,lH]
 have hr1:aF (pathsN ns1):=by rw[hp1];exact nk hr m1
 have hm1:dirP x.path∈pathsN ns1:=by rw[hp1,yt (by rw[ao];exact hpl2)];exact .inr m2
 have hq:=(ag hr1 hm1).1;rw[ao] at hq;have hadd:qk t.nodes x=ns1.set (place (pathsN ns1) (dirP x.path)) (kidF 1 x.zxid (ns1.getD (place (pathsN ns1) (dirP x.path)) default)):=by unfold qk kj;rw[hN',RJ hm1]
 have hf2:=(lm x.zxid ns1 t.sessions (dirP x.path) (by omega) hr1).re (by rw[decide_eq_true hm1]);rw[hadd] at hdone;generalize hn2:ns1.set (place (pathsN ns1) (dirP x.path)) (kidF 1 x.zxid (ns1.getD (place (pathsN ns1) (dirP x.path)) default))=ns2 at hdone;have hl2:ns2.length=t.nodes.length+1:=by rw[←hn2,R3,hl1]
 have hcc:=jB ns2 (by omega);unfold kidF at hn2;have e1:(splitP x.path).1.1=dirP x.path:=rfl;have tk1:List.take (t.nodes.length+1) (ns1.map XU.row)=ns1.map XU.row:=RK (by rw[RO];omega);have tk2:List.take (t.nodes.length+1) (ns2.map XU.row)=ns2.map XU.row:=RK (by rw[RO];omega);refine zJ func32 ntmps32 results32 ?_;simp only[go_sem]
 (refine zW qw (zc qTp0 (zc hwc (zc hcp (zc (ic func73) (zc (ic func128) (zc hf1 (z4 hf2 hcc (split_c x.path hp) (ow (GP (t.nodes.map XU.row) [.str x.path,.str x.data,.int .i64 x.zxid,.int .i64 x.zxid,.int .i64 x.zxid,.int .i64 0,.int .i64 0,.int .i64 x.owner,.int .i64 0] (place (pathsN t.nodes) x.path) hpl (by rw[RO];omega)))))))))) (zx @o3 (zx @XU.rins (zx @hN (zx @hl1 (zx @e1 (zx @hn2 (zx @hl2 (zx @tk1 (zx @tk2 (zx @XU.rgetD (zx @bs (zx @XU.rset (zx @az @List.set_set.{0}))))))))))))) (z2 ?_ ?_)<;>(repeat with_reducible intro hc))
 all_goals first
  |(rw[cU h0 (by rw[hdone];exact hc)];exact zEf dfl;done)
  |(rw[ez h0 (by rw[hdone];exact hc),hdone];exact zEf @tk2;done)
theorem Kc(t:XW)(x:ATxn)(hw:t.wf)(hp:okS x.path)(hd:okS x.data)(h0:bw t x=0)(o4:x.op=4):ab prog [] 32 [t.av,x.av] (ret (.tup [(ah t x).1.av,.d (.sl 2 ((ah t x).2.1.map XZ.row)),I (ah t x).2.2])):=by
 have hwc:=nG t x hw hp hd;obtain⟨g1,g2,g3,g4,g5,g6,g7,g8⟩:=cm h0;obtain⟨h1,h2⟩:t.nodes.length*88≤140737488351232∧t.sessions.length*8≤140737488351232:=⟨hw.2.1.1,hw.2.2.1⟩;have hcp:=kA t h1 h2;have h400:t.nodes.length≤400:=(cu g1).2.1;rw[h0] at hwc;have hr:aF (pathsN t.nodes):=aE g1;obtain⟨m1,_⟩:=g7 o4;have hnr:x.path≠[47]:=(lN g2 (by omega)).2;obtain⟨m2,m3⟩:=yq g1 m1 hnr;have hf1:=(lm x.zxid t.nodes t.sessions x.path h1 hr).re (by rw[decide_eq_true (show x.path∈pathsN t.nodes from m1)]);have hpf:=ag hr m1;have hpl:place (pathsN t.nodes) x.path<(t.nodes.map XU.row).length:=by have:=hpf.1;rw[RO];rwa[ao] at this
 have hpl2:place (pathsN t.nodes) x.path<t.nodes.length:=by rw[RO] at hpl;exact hpl
 have hdone:(cG t x)=(⟨x.zxid,fA t.nodes x.path x.zxid,t.sessions⟩,eR x.path):=by unfold cG;rw[RI (by omega),RI (by omega),RI (by omega),RJ o4]
 generalize hN:t.nodes.eraseIdx (place (pathsN t.nodes) x.path)=ns1;have hl1:ns1.length=t.nodes.length-1:=by rw[←hN,cP _ _ hpl2]
 have hp1:pathsN ns1=(pathsN t.nodes).eraseIdx (place (pathsN t.nodes) x.path):=by rw[←hN,cq]
 have hr1:aF (pathsN ns1):=by rw[hp1];exact gi hr _
 have hm1:dirP x.path∈pathsN ns1:=by rw[hp1];exact gP m2 (by rw[hpf.2];exact m3.symm)
 have hq:=(ag hr1 hm1).1;rw[ao] at hq;have hadd:fA t.nodes x.path x.zxid=ns1.set (place (pathsN ns1) (dirP x.path)) (kidF (-1) x.zxid (ns1.getD (place (pathsN ns1) (dirP x.path)) default)):=by unfold fA kj;rw[hN,RJ hm1]
 have hf2:=(lm x.zxid ns1 t.sessions (dirP x.path) (by omega) hr1).re (by rw[decide_eq_true hm1]);rw[hadd] at hdone;generalize hn2:ns1.set (place (pathsN ns1) (dirP x.path)) (kidF (-1) x.zxid (ns1.getD (place (pathsN ns1) (dirP x.path)) default))=ns2 at hdone;have hl2:ns2.length=t.nodes.length-1:=by rw[←hn2,R3,hl1]
 have hcc:=jB ns2 (by omega);unfold kidF at hn2;have e1:(splitP x.path).1.1=dirP x.path:=rfl;have tk1:List.take (t.nodes.length-1) (ns1.map XU.row)=ns1.map XU.row:=RK (by rw[RO];omega);have tk2:List.take (t.nodes.length-1) (ns2.map XU.row)=ns2.map XU.row:=RK (by rw[RO];omega);refine zJ func32 ntmps32 results32 ?_;simp only[go_sem]
 (refine zW qw (zc qTp1 (zc hwc (zc hcp (zc (ic func72) (zc (ic func128) (zc hf1 (z4 hf2 hcc (split_c x.path hp) (ow (wR (t.nodes.map XU.row) (place (pathsN t.nodes) x.path) hpl (by rw[RO];omega)))))))))) (zx @o4 (zx @dS (zx @hN (zx @hl1 (zx @e1 (zx @hn2 (zx @hl2 (zx @tk1 (zx @tk2 (zx @XU.rgetD (zx @bs (zx @XU.rset (zx @az @List.set_set.{0}))))))))))))) (z2 ?_ ?_)<;>(repeat with_reducible intro hc))
 all_goals first
  |(rw[cU h0 (by rw[hdone];exact hc)];(refine zF rfl ?_ ?_ ?_ ?_;(iterate 3 (focus((try simp(disch:=omega) only[go_sem,aa,default])<;>(try omega)<;>fail)));(try simp(disch:=omega) only[go_sem,aa,default,I,B,S,zj]));done)
  |(rw[ez h0 (by rw[hdone];exact hc),hdone];(refine zF rfl ?_ ?_ ?_ ?_;(iterate 3 (focus((try simp(disch:=omega) only[go_sem,aa,tk2,eR])<;>(try omega)<;>fail)));(try simp(disch:=omega) only[go_sem,aa,tk2,eR,I,B,S,zj]));done)
theorem Lc(t:XW)(x:ATxn)(hw:t.wf)(hp:okS x.path)(hd:okS x.data)(h0:bw t x=0)(o5:x.op=5):ab prog [] 32 [t.av,x.av] (ret (.tup [(ah t x).1.av,.d (.sl 2 ((ah t x).2.1.map XZ.row)),I (ah t x).2.2])):=by
 have hwc:=nG t x hw hp hd;obtain⟨g1,g2,g3,g4,g5,g6,g7,g8⟩:=cm h0;obtain⟨h1,h2⟩:t.nodes.length*88≤140737488351232∧t.sessions.length*8≤140737488351232:=⟨hw.2.1.1,hw.2.2.1⟩;have hcp:=kA t h1 h2;have h400:t.nodes.length≤400:=(cu g1).2.1;rw[h0] at hwc;have hr:aF (pathsN t.nodes):=aE g1;have m1:=g8 o5;have hf1:=(lm x.zxid t.nodes t.sessions x.path h1 hr).re (by rw[decide_eq_true (show x.path∈pathsN t.nodes from m1)]);have hq:=(ag hr m1).1;rw[ao] at hq;have hdone:(cG t x)=(⟨x.zxid,setN t.nodes x,t.sessions⟩,[⟨3,x.path⟩]):=by unfold cG;rw[RI (by omega),RI (by omega),RI (by omega),RI (by omega)]
 have hadd:setN t.nodes x=t.nodes.set (place (pathsN t.nodes) x.path) (setF x (t.nodes.getD (place (pathsN t.nodes) x.path) default)):=rfl;rw[hadd] at hdone;generalize hn2:t.nodes.set (place (pathsN t.nodes) x.path) (setF x (t.nodes.getD (place (pathsN t.nodes) x.path) default))=ns2 at hdone;have hl2:ns2.length=t.nodes.length:=by rw[←hn2,R3]
 have hcc:=jB ns2 (by omega);unfold setF at hn2;have tk2:List.take t.nodes.length (ns2.map XU.row)=ns2.map XU.row:=RK (by rw[RO];omega);refine zJ func32 ntmps32 results32 ?_;simp only[go_sem]
 (refine zW qw (zc qTp2 (z4 hwc hcp hf1 hcc)) (zx @o5 (zx @hn2 (zx @hl2 (zx @tk2 (zx @XU.rgetD (zx @bs (zx @XU.rset (zx @az @List.set_set.{0})))))))) (z4 ?_ ?_ ?_ ?_)<;>(repeat with_reducible intro hc))
 all_goals first
  |(rw[cU h0 (by rw[hdone];exact hc)];exact zEf dfl;done)
  |(rw[ez h0 (by rw[hdone];exact hc),hdone];exact zEf @tk2;done)
theorem Kp(t:XW)(x:ATxn)(hw:t.wf)(hp:okS x.path)(hd:okS x.data)(h0:bw t x=0)(o1:x.op=1):ab prog [] 32 [t.av,x.av] (ret (.tup [(ah t x).1.av,.d (.sl 2 ((ah t x).2.1.map XZ.row)),I (ah t x).2.2])):=by
 have hwc:=nG t x hw hp hd;obtain⟨g1,g2,g3,g4,g5,g6,g7,g8⟩:=cm h0;obtain⟨h1,h2⟩:t.nodes.length*88≤140737488351232∧t.sessions.length*8≤140737488351232:=⟨hw.2.1.1,hw.2.2.1⟩;have hcp:=kA t h1 h2;have h400:t.nodes.length≤400:=(cu g1).2.1;rw[h0] at hwc;have hri:fw t.sessions:=gh g1;have hss:t.sessions.length≤2147483647:=mA g1;have hb1:=z7 t.sessions x.session h2 hri;have hpl:bf t.sessions x.session≤(t.sessions.map aY).length:=by rw[RO];exact TF
 have hpl2:bf t.sessions x.session≤t.sessions.length:=TF;have hdone:(cG t x)=(⟨x.zxid,t.nodes,t.sessions.insertIdx (bf t.sessions x.session) x.session⟩,[]):=by unfold cG;rw[RJ o1]
 generalize hN:t.sessions.insertIdx (bf t.sessions x.session) x.session=ss1 at hdone;have hl1:ss1.length=t.sessions.length+1:=by rw[←hN,dD _ _ _ hpl2]
 have hri1:(t.sessions.map aY).insertIdx (bf t.sessions x.session) [DV.int .i64 x.session]=ss1.map aY:=by rw[←hN];exact kW aY t.sessions _ x.session
 have tk2:List.take (t.sessions.length+1) (ss1.map aY)=ss1.map aY:=RK (by rw[RO];omega);have hcc:=jB t.nodes h1;refine zJ func32 ntmps32 results32 ?_;simp only[go_sem]
 (refine zW qw (zc qTp3 (zc hwc (z4 hcp hb1 hcc (ow (Mf (t.sessions.map aY) [.int .i64 x.session] (bf t.sessions x.session) hpl (by rw[RO];omega)))))) (zx @o1 (zx @hri1 (zx @hl1 @tk2))) (z4 ?_ ?_ ?_ ?_)<;>(repeat with_reducible intro hc))
 all_goals first
  |(rw[cU h0 (by rw[hdone];exact hc)];exact zEf dfl;done)
  |(rw[ez h0 (by rw[hdone];exact hc),hdone];exact zEf @tk2;done)
theorem qTc0:Pls [XS [0,1,2,3,4,5,6] (.fork 7 (XS [8,9,10] .done) 8 (XS [7,9,10] .done))]:=pls _
attribute [go_sem] ntmps72 results72 ntmps128 results128
theorem Hs{t:XW}{p:List UInt8}{n:Nat}(h:kidsN t p n=0){j:Nat}(hj:j<n):mw t j≠p:=by
 unfold kidsN at h;rw[Vg,TH] at h
 have:=h j (Un.2 hj);simpa using this
structure CloseOk (t:XW) (s:Int) (k:Nat) (ns:List XU) (es:List XZ):Prop where
 rises:aF (pathsN ns)
 rest:∀ j,k≤j→j<t.nodes.length→(nd t j).path∈pathsN ns
 dirs:∀ j,j<t.nodes.length→(nd t j).stat.owner=s→dirP (nd t j).path∈pathsN ns
 len:ns.length≤t.nodes.length
 elen:es.length≤2*k
theorem nQ{t:XW}{s z:Int}(hg:aS t=true)(hs:1≤s){k:Nat}(hk:k<t.nodes.length)(ho:(nd t k).stat.owner=s):br (nd t k).path=true∧dirP (nd t k).path∈ar t∧dirP (nd t k).path≠(nd t k).path∧∀ j,j<t.nodes.length→dirP (nd t j).path≠(nd t k).path:=by
 obtain⟨hh,_,hA,hB⟩:=bi.1 hg;have hmem:(nd t k).path∈ar t:=by rw[←aR];exact bu _ _ (by rw[aK];exact hk)
 have hnr:(nd t k).path≠[47]:=fun e=>by
  have h0:k=0:=by
   apply Sh;intro hk0
   have:=tP (t:=t) (i:=k) (fun j hj=>hA j (by omega)) (by omega);rw[hh.2.2.1,e] at this;exact Sw _ this
  subst h0;rw[hh.2.2.2.1] at ho;omega
 obtain⟨a,b⟩:=yq hg hmem hnr;refine⟨(hA k hk).1,a,b,fun j hj=>?_⟩;obtain⟨_,c,_,d⟩:=hB k hk;have hz:=(c (by omega)).2;rw[hz] at d;exact Hs (by omega) hj
theorem mU{t:XW}{s z:Int}(hg:aS t=true)(hs:1≤s):∀ k,k≤t.nodes.length→CloseOk t s k (aQ t s z k).1 (aQ t s z k).2
 |0,_=>⟨aE hg,fun j _ hj=>by show(nd t j).path∈ar t;rw[←aR];exact bu _ _ (by rw[aK];exact hj),fun j hj ho=>(nQ (z:=z) hg hs hj ho).2.1,RP _,RP _⟩
 | k + 1,h=>by
   have ih:=mU (z:=z) hg hs k (by omega);unfold aQ
   by_cases ho:(t.nodes.getD k default).stat.owner=s
   ·rw[RJ ho]
    have hm:=ih.rest k (RP _) (by omega);have hpf:=ag ih.rises hm;obtain⟨_,_,_,hne⟩:=nQ (z:=z) hg hs (k:=k) (by omega) ho;have hp:pathsN (fA (aQ t s z k).1 (t.nodes.getD k default).path z)=(pathsN (aQ t s z k).1).eraseIdx (place (pathsN (aQ t s z k).1) (nd t k).path):=by unfold fA;rw[oN,cq];rfl
    refine⟨by rw[hp];exact gi ih.rises _,fun j hj hj2=>?_,fun j hj hjo=>?_,?_,?_⟩
    ·rw[hp]
     refine gP (ih.rest j (by omega) hj2) ?_;rw[hpf.2]
     have:=aV (aE hg) (i:=k) (j:=j) (by omega) (by rw[aK];exact hj2);rw[aR,aR] at this;intro e;rw[e] at this;exact Sw _ this
    ·rw[hp]
     refine gP (ih.dirs j hj hjo) ?_;rw[hpf.2];exact(hne j hj).symm
    ·have hl:=hpf.1
     rw[ao] at hl;show(fA _ _ _).length≤_;unfold fA;rw[pl]
     have:=cP _ _ hl;unfold nd at this;rw[this]
     have:=ih.len;omega
    ·show((aQ t s z k).2++eR _).length≤_
     rw[RL];have:=ih.elen;unfold eR;simp only[RQ,Sd];omega
   ·rw[RI ho]
    exact⟨ih.rises,fun j hj hj2=>ih.rest j (by omega) hj2,ih.dirs,ih.len,by have:=ih.elen;omega⟩
theorem K1(t:XW)(x:ATxn)(hw:t.wf)(hp:okS x.path)(hd:okS x.data)(h0:bw t x=0)(o2:x.op=2):ab prog [] 32 [t.av,x.av] (ret (.tup [(ah t x).1.av,.d (.sl 2 ((ah t x).2.1.map XZ.row)),I (ah t x).2.2])):=by
 have hwc:=nG t x hw hp hd;obtain⟨g1,g2,g3,g4,g5,g6,g7,g8⟩:=cm h0;obtain⟨h1,h2⟩:t.nodes.length*88≤140737488351232∧t.sessions.length*8≤140737488351232:=⟨hw.2.1.1,hw.2.2.1⟩;have hcp:=kA t h1 h2;have h400:t.nodes.length≤400:=(cu g1).2.1;rw[h0] at hwc;have hri:fw t.sessions:=gh g1;have ms:=g5 (by omega);have hb1:=(z7 t.sessions x.session h2 hri).re (by rw[decide_eq_true ms]);have hpl:bf t.sessions x.session<(t.sessions.map aY).length:=by rw[RO];exact xw hri ms
 have hpl2:bf t.sessions x.session<t.sessions.length:=by rw[RO] at hpl;exact hpl
 have hdone:(cG t x)=(⟨x.zxid,(aQ t x.session x.zxid t.nodes.length).1,t.sessions.eraseIdx (bf t.sessions x.session)⟩,(aQ t x.session x.zxid t.nodes.length).2):=by unfold cG;rw[RI (by omega),RJ o2]
 generalize hN:t.sessions.eraseIdx (bf t.sessions x.session)=ss1 at hdone;have hl1:ss1.length=t.sessions.length-1:=by rw[←hN,cP _ _ hpl2]
 refine zJ func32 ntmps32 results32 ?_;simp only[go_sem];refine zW qw (z4 hwc hcp hb1 (ow (IH (t.sessions.map aY) (bf t.sessions x.session) hpl (by rw[RO];omega)))) (zx @o2 (zx @dS (zx @hN @hl1))) (z1 (fun hc hc hc=>?_));refine Xa (Xl 5 3 2 rfl rfl) ?_;simp only[go_sem];refine W9 (ι:=Nat) (fun k=>k≤t.nodes.length) (fun k=>t.nodes.length-k) [3,4,8,90,91] (fun k=>[(92,I k)]) (fun k=>[.cells [.d (.int .i64 t.zxid),.d (.sl 9 (t.nodes.map XU.row)),.d (.sl 1 (t.sessions.map aY))],.cells [I x.zxid,I 2,I x.session,S x.path,S x.data,I x.version,I x.owner],.cells [I 0,.d (.sc (.slice none 0 0)),.d (.sc (.slice none 0 0))],.rows 9 ((aQ t x.session x.zxid k).1.map XU.row),.dead,.cells [I x.zxid,.osl 3 9 0 (aQ t x.session x.zxid k).1.length,.osl 6 1 0 (t.sessions.length-1),.osl 7 2 0 (aQ t x.session x.zxid k).2.length],.rows 1 (ss1.map aY),.rows 2 ((aQ t x.session x.zxid k).2.map XZ.row)]) 0 ?_ ?_ ?_
 ·omega
 ·simp only[go_sem,aQ];exact zSm Yj
 intro k hk;have ci:=mU (z:=x.zxid) g1 (dq g2).2.2.1 k hk;have hnext:aQ t x.session x.zxid (k+1)=if(t.nodes.getD k default).stat.owner=x.session then(fA (aQ t x.session x.zxid k).1 (t.nodes.getD k default).path x.zxid,(aQ t x.session x.zxid k).2++eR (t.nodes.getD k default).path) else aQ t x.session x.zxid k:=rfl
 simp only[go_sem]
 by_cases hkk:k<t.nodes.length
 case neg=>
  obtain rfl:k=t.nodes.length:=by omega
  generalize aQ t x.session x.zxid t.nodes.length=cl at ci hdone;obtain⟨ns,es⟩:=cl;have hcc:=jB ns (by have:=ci.len;simp only at this;omega);have tks:List.take (t.sessions.length-1) (ss1.map aY)=ss1.map aY:=RK (by rw[RO];omega)
  (refine zW qw (z2 qTc0 hcc) Yj (z2 ?_ ?_)<;>(repeat with_reducible intro hc))
  all_goals first
   |(rw[cU h0 (by rw[hdone];exact hc)];exact zEf dfl;done)
   |(rw[ez h0 (by rw[hdone];exact hc),hdone];exact zEf (zx @tks (zx @I.eq_1 @S.eq_1));done)
 by_cases how:(t.nodes.getD k default).stat.owner=x.session
 ·rw[RJ how] at hnext
  have hone:=nQ (z:=x.zxid) g1 (dq g2).2.2.1 hkk how;have hokp:=(vn hw k).1;have hm:=ci.rest k (RP _) hkk;have hdir:=ci.dirs k hkk how;have hr:=ci.rises;have hlen:=ci.len;have helen:=ci.elen;clear ci;unfold nd at hone hm hdir;generalize aQ t x.session x.zxid k=cl at hnext hm hdir hr hlen helen;obtain⟨ns,es⟩:=cl;simp only at hnext hm hdir hr hlen helen;generalize hpp:(t.nodes.getD k default).path=p at hnext hm hdir hone hokp;have hf1:=(lm x.zxid ns ss1 p (by omega) hr).re (by rw[decide_eq_true hm]);have hpf:=ag hr hm;have hdpl:place (pathsN ns) p<(ns.map XU.row).length:=by have:=hpf.1;rw[RO];rwa[ao] at this
  have hdpl2:place (pathsN ns) p<ns.length:=by rw[RO] at hdpl;exact hdpl
  generalize hM:ns.eraseIdx (place (pathsN ns) p)=ns1;have hlm:ns1.length=ns.length-1:=by rw[←hM,cP _ _ hdpl2]
  have hp1:pathsN ns1=(pathsN ns).eraseIdx (place (pathsN ns) p):=by rw[←hM,cq]
  have hr1:aF (pathsN ns1):=by rw[hp1];exact gi hr _
  have hm1:dirP p∈pathsN ns1:=by rw[hp1];exact gP hdir (by rw[hpf.2];exact hone.2.2.1.symm)
  have hq:=(ag hr1 hm1).1;rw[ao] at hq;have hadd:fA ns p x.zxid=ns1.set (place (pathsN ns1) (dirP p)) (kidF (-1) x.zxid (ns1.getD (place (pathsN ns1) (dirP p)) default)):=by unfold fA kj;rw[hM,RJ hm1]
  have hf2:=(lm x.zxid ns1 ss1 (dirP p) (by omega) hr1).re (by rw[decide_eq_true hm1]);rw[hadd] at hnext;generalize hn2:ns1.set (place (pathsN ns1) (dirP p)) (kidF (-1) x.zxid (ns1.getD (place (pathsN ns1) (dirP p)) default))=ns2 at hnext;have hl2:ns2.length=ns.length-1:=by rw[←hn2,R3,hlm]
  unfold kidF at hn2;have e1:(splitP p).1.1=dirP p:=rfl;have tk1:List.take (ns.length-1) (ns1.map XU.row)=ns1.map XU.row:=RK (by rw[RO];omega);have tks:List.take (t.sessions.length-1) (ss1.map aY)=ss1.map aY:=RK (by rw[RO];omega);refine zW qw (zc (ic func72) (zc (ic func128) (z4 hf1 hf2 (split_c p hokp) (ow (wR (ns.map XU.row) (place (pathsN ns) p) hdpl (by rw[RO];omega)))))) (zx @how (zx @hpp (zx @dS (zx @hM (zx @hlm (zx @e1 (zx @hn2 (zx @hl2 (zx @tk1 (zx @tks (zx @XU.rgetD (zx @bs (zx @XU.rset (zx @az (zx @List.set_set.{0} (zx @XZ.rsnoc (zx @ay @eE))))))))))))))))) (z1 (fun hc hc hc=>?_));refine Zq (k+1) ?_;rw[hnext];exact zFr [0,1,2,9,4,5,6,13] (zx @eR.eq_1 (zx @List.length_append.{0} (zx @List.append_assoc.{0} (zx @List.cons_append.{0} (zx @List.nil_append.{0} (zx @hl2 (zx @tks (zx @SX (zx @I.eq_1 @S.eq_1)))))))))
 ·rw[RI how] at hnext
  refine zW qw zn Yj (z1 (fun hc hc=>?_));refine Zq (k+1) ?_;rw[hnext];exact zFr [0,1,2,3,4,5,6,7] Yj
theorem iz(t:XW)(x:ATxn)(hw:t.wf)(hp:okS x.path)(hd:okS x.data):ab prog [] 32 [t.av,x.av] (ret (.tup [(ah t x).1.av,.d (.sl 2 ((ah t x).2.1.map XZ.row)),I (ah t x).2.2])):=by
 by_cases h0:bw t x=0
 case neg=>
  have hwc:=nG t x hw hp hd;rw[mJ h0];refine zJ func32 ntmps32 results32 ?_;simp only[go_sem];refine zW qw (z1 hwc) Yj (z1 (fun hc=>?_))
  all_goals try exact zk1
  exact zEe dfl
 obtain⟨o1,o2,_,_⟩:=dq (cm h0).2.1;rcases(by omega:x.op=1∨x.op=2∨x.op=3∨x.op=4∨x.op=5) with o|o|o|o|o
 ·exact Kp t x hw hp hd h0 o
 ·exact K1 t x hw hp hd h0 o
 ·exact JN t x hw hp hd h0 o
 ·exact Kc t x hw hp hd h0 o
 ·exact Lc t x hw hp hd h0 o
attribute [go_sem] ntmps218 results218
theorem kV(z:Int)(ns:List XU)(ss:List Int)(key:List UInt8)(h:ns.length*88≤140737488351232)(hr:aF (pathsN ns)):ab prog [] 163 [.agg [I z,.d (.sl 9 (ns.map XU.row)),.d (.sl 1 (ss.map aY))],S key] (ret (I (um ⟨z,ns,ss⟩ key))):=
 pY ⟨z,ns,ss⟩ key h hr
theorem yf(t:XW)(x:ATxn)(hw:t.wf)(hps:∀ n,n∈t.nodes→n.path.length≤1048576)(hz:okI x.zxid)(hp:x.path.length≤1048576)(hd:okS x.data)(h0:¬ bw t x=0):ab prog [] 157 [t.av,x.av] (ret (.tup [(default:XW).av,.d (.sl 2 (([]:List XZ).map XZ.row)),I (bw t x)])):=by
 have h1:=hw.2.1.1;have h2:=hw.2.2.1
 by_cases a1:aS t=true
 case neg=>
  have e:bw t x=3:=by unfold bw;rw[RJ (by simpa using a1)]
  rw[e];refine zJ func157 ntmps157 results157 ?_;simp only[go_sem]
  (refine zW qw (z2 ((cA t hw hps).re (congrArg B (by simpa using a1))) (ic func218)) Yj (z1 ?_)<;>(repeat with_reducible intro hc))
  exact zEe dfl
 have hr:=aE a1;have hgc:=(cA t hw hps).re (congrArg B a1)
 by_cases a2:aT x=0
 case neg=>
  have e:bw t x=aT x:=by unfold bw;rw[RI (by simp[a1]),RJ a2]
  rw[e];refine zJ func157 ntmps157 results157 ?_;simp only[go_sem]
  (refine zW qw (z3 hgc (cZ x hz hp hd) (ic func218)) Yj (z1 ?_)<;>(repeat with_reducible intro hc))
  all_goals try exact zk1
  exact zEe dfl
 have hxc:=(cZ x hz hp hd).re (congrArg I a2);obtain⟨o1,o2,_,_⟩:=dq a2
 have hcut:bw t x=if x.zxid≤t.zxid then 13 else if x.op=1 then(if x.session∈t.sessions then 8 else 0) else if ¬ x.session∈t.sessions then 12 else if x.op=3 then kZ t x (aw t x.path).2
  else if x.op=4 then(if(aw t x.path).2=0∧0<(aw t x.path).1.stat.kids then 10 else(aw t x.path).2) else if x.op=5 then(if(aw t x.path).2=0∧¬ x.version=(aw t x.path).1.stat.version+1 then 9 else(aw t x.path).2) else 0:=by
  unfold bw;rw[RI (by simp[a1]),RI (fun h=>h a2)]
 have hoc:=isOpen_c t x.session h2;rw[hcut] at h0 ⊢;clear hcut
 by_cases a3:x.zxid≤t.zxid
 ·rw[RJ a3]
  refine zJ func157 ntmps157 results157 ?_;simp only[go_sem]
  (refine zW qw (z3 hgc hxc (ic func218)) @a3 (z1 ?_)<;>(repeat with_reducible intro hc))
  all_goals try exact zk1
  exact zEe dfl
 rw[RI a3] at h0 ⊢
 by_cases b1:x.op=1
 ·rw[RJ b1] at h0 ⊢
  by_cases m:x.session∈t.sessions
  ·rw[RJ m]
   refine zJ func157 ntmps157 results157 ?_;simp only[go_sem]
   (refine zW qw (z4 hgc hxc (hoc.re (congrArg B (decide_eq_true m))) (ic func218)) (zx @a3 @b1) (z1 ?_)<;>(repeat with_reducible intro hc))
   all_goals try exact zk1
   exact zEe dfl
  ·rw[RI m] at h0;exact absurd rfl h0
 rw[RI b1] at h0 ⊢
 by_cases m:x.session∈t.sessions
 case neg=>
  rw[RJ m];refine zJ func157 ntmps157 results157 ?_;simp only[go_sem]
  (refine zW qw (z4 hgc hxc (hoc.re (congrArg B (R0 m))) (ic func218)) (zx @a3 @b1) (z1 ?_)<;>(repeat with_reducible intro hc))
  all_goals try exact zk1
  exact zEe dfl
 rw[RI (fun h=>h m)] at h0 ⊢;have hoc2:=hoc.re (congrArg B (decide_eq_true m));have hn1:=kV t.zxid t.nodes t.sessions x.path h1 hr;have hn2:=kV t.zxid t.nodes t.sessions (dirP x.path) h1 hr;have hsp:=bC x.path hp;have e1:(splitP x.path).1.1=dirP x.path:=rfl;have hpos (p:List UInt8) (q:p∈ar t):um t p=(place (ar t) p:Nat)∧place (ar t) p<t.nodes.length∧aw t p=(nd t (place (ar t) p),0):=by have:=(ag hr q).1;rw[aK] at this;exact⟨nv q,this,by unfold aw;rw[RJ q]⟩
 by_cases b3:x.op=3
 ·rw[RJ b3] at h0 ⊢
  unfold kZ at h0 ⊢
  by_cases q1:x.path∈ar t
  ·obtain⟨p1,p2,p3⟩:=hpos _ q1
   rw[RJ (fk.2 q1)];refine zJ func157 ntmps157 results157 ?_;simp only[go_sem]
   (refine zW qw (zc hgc (zc hxc (zc hoc2 (z4 (hn1.re (congrArg I p1)) hn2 hsp (ic func218))))) (zx @b3 @e1) (z1 ?_)<;>(repeat with_reducible intro hc))
   all_goals try exact zk1
   exact zEe dfl
  rw[RI (fun h=>q1 (fk.1 h))] at h0 ⊢;have k1:=hn1.re (congrArg I (nodeI_no q1))
  by_cases q2:dirP x.path∈ar t
  case neg=>
   have g7:=kS q2;unfold dirP at g7;rw[g7,RJ (by decide)];refine zJ func157 ntmps157 results157 ?_;simp only[go_sem]
   (refine zW qw (zc hgc (zc hxc (zc hoc2 (z4 k1 (hn2.re (congrArg I (nodeI_no q2))) hsp (ic func218))))) (zx @b3 @e1) (z1 ?_)<;>(repeat with_reducible intro hc))
   all_goals try exact zk1
   exact zEe dfl
  obtain⟨p1,p2,p3⟩:=hpos _ q2;have k2:=hn2.re (congrArg I p1);have p3':aw t (splitP x.path).1.1=(nd t (place (ar t) (dirP x.path)),0):=p3;rw[p3'] at h0 ⊢;simp only[Tp,Tj] at h0 ⊢;unfold nd at h0 ⊢;generalize place (ar t) (dirP x.path)=q at p2 k2 h0 ⊢
  by_cases q3:(t.nodes.getD q default).stat.owner=0
  case neg=>
   rw[RJ q3];refine zJ func157 ntmps157 results157 ?_;simp only[go_sem]
   (refine zW qw (zc hgc (zc hxc (zc hoc2 (z4 k1 k2 hsp (ic func218))))) (zx @b3 @e1) (z1 ?_)<;>(repeat with_reducible intro hc))
   all_goals try exact zk1
   exact zEe dfl
  rw[RI (fun h=>h q3)] at h0 ⊢
  by_cases q4:¬ x.owner=0∧¬ x.owner=x.session
  ·rw[RJ q4]
   refine zJ func157 ntmps157 results157 ?_;simp only[go_sem]
   (refine zW qw (zc hgc (zc hxc (zc hoc2 (z4 k1 k2 hsp (ic func218))))) (zx @b3 (zx @e1 @q3)) (z1 ?_)<;>(repeat with_reducible intro hc))
   all_goals try exact zk1
   exact zEe dfl
  rw[RI q4] at h0 ⊢
  by_cases q5:400≤t.nodes.length
  ·rw[RJ q5]
   refine zJ func157 ntmps157 results157 ?_;simp only[go_sem]
   (refine zW qw (zc hgc (zc hxc (zc hoc2 (z4 k1 k2 hsp (ic func218))))) (zx @b3 (zx @e1 @q3)) (z1 ?_)<;>(repeat with_reducible intro hc))
   all_goals try exact zk1
   exact zEe dfl
  ·rw[RI q5] at h0;exact absurd rfl h0
 rw[RI b3] at h0 ⊢
 by_cases b4:x.op=4
 ·rw[RJ b4] at h0 ⊢
  by_cases q1:x.path∈ar t
  case neg=>
   have g7:=kS q1;rw[g7,RI (by omega)];refine zJ func157 ntmps157 results157 ?_;simp only[go_sem]
   (refine zW qw (zc hgc (zc hxc (zc hoc2 (z4 (hn1.re (congrArg I (nodeI_no q1))) hn2 hsp (ic func218))))) (zx @b4 @e1) (z1 ?_)<;>(repeat with_reducible intro hc))
   all_goals try exact zk1
   exact zEe dfl
  obtain⟨p1,p2,p3⟩:=hpos _ q1;have k1:=hn1.re (congrArg I p1);rw[p3] at h0 ⊢;unfold nd at h0 ⊢;generalize place (ar t) x.path=q at p2 k1 h0 ⊢
  by_cases q2:0<(t.nodes.getD q default).stat.kids
  ·rw[RJ ⟨rfl,q2⟩]
   refine zJ func157 ntmps157 results157 ?_;simp only[go_sem]
   (refine zW qw (zc hgc (zc hxc (zc hoc2 (z4 k1 hn2 hsp (ic func218))))) (zx @b4 @e1) (z1 ?_)<;>(repeat with_reducible intro hc))
   all_goals try exact zk1
   exact zEe dfl
  ·rw[RI (fun h=>q2 h.2)] at h0;exact absurd rfl h0
 rw[RI b4] at h0 ⊢
 by_cases b5:x.op=5
 ·rw[RJ b5] at h0 ⊢
  by_cases q1:x.path∈ar t
  case neg=>
   have g7:=kS q1;rw[g7,RI (by omega)];refine zJ func157 ntmps157 results157 ?_;simp only[go_sem]
   (repeat' first
|(with_reducible refine AR.f ?_)
|refine bH (by decide) ?_
|(with_reducible refine AWP.cond rfl ?_ ?_<;>intro hc<;>(try simp only[hcs,R1,Sa,Sb] at hc))
|(refine bJ fun Kk hKk=>(cr dn func218 rfl (by kernel_rfl) (by simp[ntmps218]) ?_);simp only[ntmps218,results218,SK,gE,Sd,RQ,Nat.reduceAdd,RL,R3,go_sem])
|((first|((first|(with_reducible first|refine zR ?_|refine zQ ?_|refine zD ?_|refine zE ?_|refine zG ?_));intro K hK)|((first|refine zA hgc ?_ ?_ ?_ ?_ ?_|refine zA hxc ?_ ?_ ?_ ?_ ?_|refine zA hoc2 ?_ ?_ ?_ ?_ ?_|refine zA (hn1.re (congrArg I (nodeI_no q1))) ?_ ?_ ?_ ?_ ?_|refine zA hn2 ?_ ?_ ?_ ?_ ?_|refine zA hsp ?_ ?_ ?_ ?_ ?_);(focus exact rfl);(focus exact rfl);iterate 2 (focus((try simp(disch:=omega) only[go_sem,aa,b5,e1])<;>(try omega)<;>fail)))|((first|refine zN hoc2 rfl ?_ ?_|refine zN (hn1.re (congrArg I (nodeI_no q1))) rfl ?_ ?_|refine zX hgc rfl ?_ ?_|refine zX hxc rfl ?_ ?_|refine zX hn2 rfl ?_ ?_|refine zX hsp rfl ?_ ?_);(focus((try simp(disch:=omega) only[go_sem,aa,b5,e1])<;>(try omega)<;>fail)))|((first|refine zX hoc2 rfl ?_ ?_|refine zY hoc2 ?_ ?_);(focus((try simp(disch:=omega) only[go_sem,aa,b5,e1])<;>(try omega)<;>fail)))|((first|refine zX (hn1.re (congrArg I (nodeI_no q1))) rfl ?_ ?_|refine zY (hn1.re (congrArg I (nodeI_no q1))) ?_ ?_);(focus((try simp(disch:=omega) only[go_sem,aa,b5,e1])<;>(try omega)<;>fail)))|(refine aend_in (v:=?_) hKk (by first|exact .inl rfl|exact .inr rfl) ?_ ?_ ?_;rotate_left;(focus((try simp(disch:=omega) only[go_sem,aa,b5,e1])<;>(try omega)<;>fail));(focus((try simp(disch:=omega) only[go_sem,aa,b5,e1])<;>(first|done|exact rfl)));clear hKk Kk))<;>(try simp(disch:=omega) only[go_sem,aa,b5,e1])<;>(repeat' with_reducible refine Su ?_ ?_)<;>(try(with_reducible refine hK _ ?_;clear hK K)))
|omega)
   all_goals try exact zk1
   exact zEe dfl
  obtain⟨p1,p2,p3⟩:=hpos _ q1;have k1:=hn1.re (congrArg I p1);have hB:=((bi.1 a1).2.2.2 _ p2).1;rw[p3] at h0 ⊢;unfold nd at h0 hB ⊢;generalize place (ar t) x.path=q at p2 k1 h0 hB ⊢;obtain⟨v1,v2,_⟩:=hB
  by_cases q2:x.version=(t.nodes.getD q default).stat.version+1
  case neg=>
   rw[RJ ⟨rfl,q2⟩];refine zJ func157 ntmps157 results157 ?_;simp only[go_sem]
   (repeat' first
|(with_reducible refine AR.f ?_)
|refine bH (by decide) ?_
|(with_reducible refine AWP.cond rfl ?_ ?_<;>intro hc<;>(try simp only[hcs,R1,Sa,Sb] at hc))
|(refine bJ fun Kk hKk=>(cr dn func218 rfl (by kernel_rfl) (by simp[ntmps218]) ?_);simp only[ntmps218,results218,SK,gE,Sd,RQ,Nat.reduceAdd,RL,R3,go_sem])
|((first|((first|(with_reducible first|refine zR ?_|refine zQ ?_|refine zD ?_|refine zE ?_|refine zG ?_));intro K hK)|((first|refine zA hgc ?_ ?_ ?_ ?_ ?_|refine zA hxc ?_ ?_ ?_ ?_ ?_|refine zA hoc2 ?_ ?_ ?_ ?_ ?_|refine zA k1 ?_ ?_ ?_ ?_ ?_|refine zA hn2 ?_ ?_ ?_ ?_ ?_|refine zA hsp ?_ ?_ ?_ ?_ ?_);(focus exact rfl);(focus exact rfl);iterate 2 (focus((try simp(disch:=omega) only[go_sem,aa,b5,e1])<;>(try omega)<;>fail)))|((first|refine zN hoc2 rfl ?_ ?_|refine zN k1 rfl ?_ ?_|refine zX hgc rfl ?_ ?_|refine zX hxc rfl ?_ ?_|refine zX hn2 rfl ?_ ?_|refine zX hsp rfl ?_ ?_);(focus((try simp(disch:=omega) only[go_sem,aa,b5,e1])<;>(try omega)<;>fail)))|((first|refine zX hoc2 rfl ?_ ?_|refine zY hoc2 ?_ ?_);(focus((try simp(disch:=omega) only[go_sem,aa,b5,e1])<;>(try omega)<;>fail)))|((first|refine zX k1 rfl ?_ ?_|refine zY k1 ?_ ?_);(focus((try simp(disch:=omega) only[go_sem,aa,b5,e1])<;>(try omega)<;>fail)))|(refine aend_in (v:=?_) hKk (by first|exact .inl rfl|exact .inr rfl) ?_ ?_ ?_;rotate_left;(focus((try simp(disch:=omega) only[go_sem,aa,b5,e1])<;>(try omega)<;>fail));(focus((try simp(disch:=omega) only[go_sem,aa,b5,e1])<;>(first|done|exact rfl)));clear hKk Kk))<;>(try simp(disch:=omega) only[go_sem,aa,b5,e1])<;>(repeat' with_reducible refine Su ?_ ?_)<;>(try(with_reducible refine hK _ ?_;clear hK K)))
|omega)
   all_goals try exact zk1
   exact zEe dfl
  ·rw[RI (fun h=>h.2 q2)] at h0;exact absurd rfl h0
 rw[RI b5] at h0;exact absurd rfl h0
end Go.Proofs.YtjcooccnfkfjhaaGreatDoor
