/- A part of what Mem leans on: texts of this claim, one behind the other. No condition. -/
import Derived.Laws.BitsAllLaws
import Derived.Test.YtjcooccnfkfjhaaGreatDoorMemK6
namespace Go.Proofs.YtjcooccnfkfjhaaGreatDoor
set_option linter.unusedVariables false
set_option linter.unusedSimpArgs false
open Go Go.RowKit
set_option maxRecDepth 100000
theorem jM (i j:Nat) (h:i+j<9223372036854775808):IntKind.i64.wrap (IntKind.u64.wrap ((i:Int)+j)/2)=(((i+j)/2:Nat):Int):=by
 have e:IntKind.u64.wrap ((i:Int)+j)=((i+j:Nat):Int):=by simp [IntKind.wrap,IntKind.bits,IntKind.signed];omega
 rw [e]
 have e2:(((i+j:Nat):Int)/2)=(((i+j)/2:Nat):Int):=by omega
 rw [e2];simp [IntKind.wrap,IntKind.bits,IntKind.signed];omega
theorem diskCmp_c (f:AFile) (n:List UInt8):ab Tryz.prog [] 198 [f.av,S n] (ret (I (mY f.name n))):=by
 refine zJ Tryz.func198 Tryz.ntmps198 Tryz.results198 ?_;simp only [go_sem]
 (refine zW qw (z1 (nZ _ _)) trivial (z1 ?_)<;>(repeat with_reducible intro hc))
 exact zEe @mY.eq_1
theorem Hw (l:List AFile) (key:List UInt8) (h:l.length*48≤140737488351232) (hr:aV (l.map AFile.name)) :
  ab Tryz.prog [] 197 [.d (.sl 3 (l.map AFile.row)),S key,.d (.sc (.func (.func 198) #[] #[]))]
   (ret (.tup [I (place (l.map AFile.name) key),B (decide (key∈l.map AFile.name))])):=by
 have hn:∀ k,(l.map AFile.name).getD k []=(l.getD k default).name:=fun k=>fM AFile.name l k default
 refine zJ Tryz.func197 Tryz.ntmps197 Tryz.results197 ?_;simp only [go_sem]
 (refine zW qw zn trivial (z1 ?_)<;>(repeat with_reducible intro hc))
 refine AWP.loopS (ι:=Nat×Nat) (fun v=>v.1≤v.2∧v.2≤l.length∧(∀ k,k<v.1→(l.map AFile.name).getD k []<key)∧(v.2<l.length→¬ (l.map AFile.name).getD v.2 []<key)) (fun v=>v.2-v.1) [0,1,2,8] (fun v=>[(9,I v.1),(10,I v.2)]) (0,l.length) ?_ (by simp (disch:=omega) only [go_sem,aa,true_and]) ?_
 ·exact ⟨by simp,by simp,fun k hk=>by simp at hk,fun k=>by simp at k⟩
 intro ⟨i,j⟩ ⟨h1,h2,h3,h4⟩
 simp only at h1 h2 h3 h4
 simp only [go_sem]
 (repeat' first
|(with_reducible refine AR.f ?_)
|refine ap (by decide) ?_
|(with_reducible refine AWP.cond rfl ?_ ?_<;>intro hc<;>(try simp only [hcs,beq_iff_eq,ge_iff_le,gt_iff_lt] at hc))
|((first|((first|(with_reducible first|refine zR ?_|refine zQ (by decide +kernel) ?_|refine zD (by decide +kernel) ?_|refine zE (by decide +kernel) ?_|refine zG (by decide +kernel) ?_));intro K hK)|((first|refine acallH_sc (diskCmp_c _ _) rfl rfl ?_ ?_ ?_|refine acallQ_sc (diskCmp_c _ _) rfl rfl ?_ ?_ ?_);iterate 2 (focus ((try simp (disch:=omega) only [go_sem,aa,jM])<;>(try omega)<;>fail)))|((first|refine zX (diskCmp_c _ _) rfl ?_ ?_);(focus ((try simp (disch:=omega) only [go_sem,aa,jM])<;>(try omega)<;>fail)))|((first|(with_reducible refine aunder_i ?_ ?_<;>intro hg)|with_reducible intro hg)<;>(first|(exfalso;simp at hg;done)|(have hg':=hg;(try simp only [hcs,beq_iff_eq,ge_iff_le,gt_iff_lt] at hg');(try simp only [hg])))))<;>(try simp (disch:=omega) only [go_sem,aa,jM])<;>(repeat' with_reducible refine And.intro ?_ ?_)<;>(try (with_reducible refine hK _ ?_;clear hK K)))
|omega)
 ·rw [jd] at hc
  refine ⟨((i+j)/2+1,j),⟨by simp only;omega,h2,fun k hk=>?_,h4⟩,by simp only;omega,?_⟩
  ·by_cases e:k=(i+j)/2
   ·rw [e,hn];exact hc
   ·refine List.lt_trans (bd (j:=(i+j)/2) hr (by simp only at hk;omega) (by simp;omega)) ?_
    rw [hn];exact hc
  exact zSm trivial
 ·have hc2:¬ mY (l.getD ((i+j)/2) default).name key<0:=by omega
  rw [jd,←hn] at hc2
  refine ⟨(i,(i+j)/2),⟨by simp only;omega,by simp only;omega,h3,fun _=>hc2⟩,by simp only;omega,?_⟩
  exact zSm trivial
 ·have e0:i=j:=by omega
  subst e0
  have e1:place (l.map AFile.name) key=i:=gM (by simp;omega) h3 (fun h=>h4 (by simpa using h))
  have e2:key∈l.map AFile.name↔i<(l.map AFile.name).length∧(l.map AFile.name).getD i []=key:=kW hr h3 (fun h=>h4 (by simpa using h))
  (refine zE2 @e1 ?_;(try simp (disch:=omega) only [go_sem,aa,e1,I,B,S,zj]))
  simp only [uJ,e2,hn,List.length_map]
  simp at hg;simp [hg]
 ·have e0:i=j:=by omega
  subst e0
  have e1:place (l.map AFile.name) key=i:=gM (by simp;omega) h3 (fun h=>h4 (by simpa using h))
  have e2:key∈l.map AFile.name↔i<(l.map AFile.name).length∧(l.map AFile.name).getD i []=key:=kW hr h3 (fun h=>h4 (by simpa using h))
  (refine zE2 @e1 ?_;(try simp (disch:=omega) only [go_sem,aa,e1,I,B,S,zj]))
  simp only [e2,List.length_map]
  simp at hg;simp;omega
theorem clientCmp_c (f:AEntry) (n:List UInt8):ab Tryz.prog [] 233 [f.av,S n] (ret (I (mY f.path n))):=by
 refine zJ Tryz.func233 Tryz.ntmps233 Tryz.results233 ?_;simp only [go_sem]
 (refine zW qw (z1 (nZ _ _)) trivial (z1 ?_)<;>(repeat with_reducible intro hc))
 exact zEe @mY.eq_1
theorem Dt (l:List AEntry) (key:List UInt8) (h:l.length*40≤140737488351232) (hr:aV (l.map AEntry.path)) :
  ab Tryz.prog [] 232 [.d (.sl 3 (l.map AEntry.row)),S key,.d (.sc (.func (.func 233) #[] #[]))]
   (ret (.tup [I (place (l.map AEntry.path) key),B (decide (key∈l.map AEntry.path))])):=by
 have hn:∀ k,(l.map AEntry.path).getD k []=(l.getD k default).path:=fun k=>fM AEntry.path l k default
 refine zJ Tryz.func232 Tryz.ntmps232 Tryz.results232 ?_;simp only [go_sem]
 (refine zW qw zn trivial (z1 ?_)<;>(repeat with_reducible intro hc))
 refine AWP.loopS (ι:=Nat×Nat) (fun v=>v.1≤v.2∧v.2≤l.length∧(∀ k,k<v.1→(l.map AEntry.path).getD k []<key)∧(v.2<l.length→¬ (l.map AEntry.path).getD v.2 []<key)) (fun v=>v.2-v.1) [0,1,2,8] (fun v=>[(9,I v.1),(10,I v.2)]) (0,l.length) ?_ (by simp (disch:=omega) only [go_sem,aa,true_and]) ?_
 ·exact ⟨by simp,by simp,fun k hk=>by simp at hk,fun k=>by simp at k⟩
 intro ⟨i,j⟩ ⟨h1,h2,h3,h4⟩
 simp only at h1 h2 h3 h4
 simp only [go_sem]
 (repeat' first
|(with_reducible refine AR.f ?_)
|refine ap (by decide) ?_
|(with_reducible refine AWP.cond rfl ?_ ?_<;>intro hc<;>(try simp only [hcs,beq_iff_eq,ge_iff_le,gt_iff_lt] at hc))
|((first|((first|(with_reducible first|refine zR ?_|refine zQ (by decide +kernel) ?_|refine zD (by decide +kernel) ?_|refine zE (by decide +kernel) ?_|refine zG (by decide +kernel) ?_));intro K hK)|((first|refine acallH_sc (clientCmp_c _ _) rfl rfl ?_ ?_ ?_|refine acallQ_sc (clientCmp_c _ _) rfl rfl ?_ ?_ ?_);iterate 2 (focus ((try simp (disch:=omega) only [go_sem,aa,jM])<;>(try omega)<;>fail)))|((first|refine zX (clientCmp_c _ _) rfl ?_ ?_);(focus ((try simp (disch:=omega) only [go_sem,aa,jM])<;>(try omega)<;>fail)))|((first|(with_reducible refine aunder_i ?_ ?_<;>intro hg)|with_reducible intro hg)<;>(first|(exfalso;simp at hg;done)|(have hg':=hg;(try simp only [hcs,beq_iff_eq,ge_iff_le,gt_iff_lt] at hg');(try simp only [hg])))))<;>(try simp (disch:=omega) only [go_sem,aa,jM])<;>(repeat' with_reducible refine And.intro ?_ ?_)<;>(try (with_reducible refine hK _ ?_;clear hK K)))
|omega)
 ·rw [jd] at hc
  refine ⟨((i+j)/2+1,j),⟨by simp only;omega,h2,fun k hk=>?_,h4⟩,by simp only;omega,?_⟩
  ·by_cases e:k=(i+j)/2
   ·rw [e,hn];exact hc
   ·refine List.lt_trans (bd (j:=(i+j)/2) hr (by simp only at hk;omega) (by simp;omega)) ?_
    rw [hn];exact hc
  exact zSm trivial
 ·have hc2:¬ mY (l.getD ((i+j)/2) default).path key<0:=by omega
  rw [jd,←hn] at hc2
  refine ⟨(i,(i+j)/2),⟨by simp only;omega,by simp only;omega,h3,fun _=>hc2⟩,by simp only;omega,?_⟩
  exact zSm trivial
 ·have e0:i=j:=by omega
  subst e0
  have e1:place (l.map AEntry.path) key=i:=gM (by simp;omega) h3 (fun h=>h4 (by simpa using h))
  have e2:key∈l.map AEntry.path↔i<(l.map AEntry.path).length∧(l.map AEntry.path).getD i []=key:=kW hr h3 (fun h=>h4 (by simpa using h))
  (refine zE2 @e1 ?_;(try simp (disch:=omega) only [go_sem,aa,e1,I,B,S,zj]))
  simp only [uJ,e2,hn,List.length_map]
  simp at hg;simp [hg]
 ·have e0:i=j:=by omega
  subst e0
  have e1:place (l.map AEntry.path) key=i:=gM (by simp;omega) h3 (fun h=>h4 (by simpa using h))
  have e2:key∈l.map AEntry.path↔i<(l.map AEntry.path).length∧(l.map AEntry.path).getD i []=key:=kW hr h3 (fun h=>h4 (by simpa using h))
  (refine zE2 @e1 ?_;(try simp (disch:=omega) only [go_sem,aa,e1,I,B,S,zj]))
  simp only [e2,List.length_map]
  simp at hg;simp;omega
theorem treeCmp_c (f:ANode) (n:List UInt8):ab Tryz.prog [] 131 [f.av,S n] (ret (I (mY f.path n))):=by
 refine zJ Tryz.func131 Tryz.ntmps131 Tryz.results131 ?_;simp only [go_sem]
 (refine zW qw (z1 (nZ _ _)) trivial (z1 ?_)<;>(repeat with_reducible intro hc))
 exact zEe @mY.eq_1
theorem di (i:Nat):((i:Int)+1).toNat=i+1:=by omega
theorem dc (i n:Nat) (h:i≤n):((n:Int)-i).toNat=n-i:=by omega
theorem uG (i n:Nat) (h:i≤n+1):((n:Int)+1-i).toNat=n+1-i:=by omega
theorem uM (i n:Nat) (h:i≤n+1):((n:Int)+1-i)=((n+1-i:Nat):Int):=by omega
theorem fG {α:Type} (R:List α) (i:Nat):R.eraseIdx i=R.take i++R.drop (i+1):=List.eraseIdx_eq_take_drop_succ R i
theorem m9 {α:Type} {R junk X z t:List α} {i q m:Nat} (h:i<R.length) (hq:q=R.length-1) (hm:m=R.length-(i+1)) :
  List.take q (List.take q (List.take i (R++junk)++List.take m (List.drop (i+1) (R++junk))++X)++z++t)=R.eraseIdx i:=by
 have e1:List.take i (R++junk)=R.take i:=List.take_append_of_le_length (by omega)
 have e2:List.take m (List.drop (i+1) (R++junk))=R.drop (i+1):=by
  rw [List.drop_append_of_le_length (by omega),hm]
  have:R.length-(i+1)=(R.drop (i+1)).length:=by simp
  rw [this,List.take_append_of_le_length (Nat.le_refl _),List.take_length]
 have e3:(R.take i++R.drop (i+1)).length=q:=by simp;omega
 rw [e1,e2,fG]
 have e4:List.take q (R.take i++R.drop (i+1)++X)=R.take i++R.drop (i+1):=by
  rw [←e3,List.take_append_of_le_length (Nat.le_refl _),List.take_length]
 rw [e4,List.append_assoc,←e3,List.take_append_of_le_length (Nat.le_refl _),List.take_length]
theorem mO {α:Type} {R junk X z t:List α} {i q:Nat} (h:i+1=R.length) (hq:q=i) :
  List.take q (List.take q (List.take i (R++junk)++X)++z++t)=R.eraseIdx i:=by
 subst hq
 have e1:List.take q (R++junk)=R.take q:=List.take_append_of_le_length (by omega)
 have e3:(R.take q).length=q:=by simp;omega
 have e2:R.drop (q+1)=[]:=List.drop_eq_nil_of_le (by omega)
 have e4:List.take q (R.take q++X)=R.take q:=by
  have:=List.take_append_of_le_length (l₁:=R.take q) (l₂:=X) (i:=q) (by omega)
  rw [this,List.take_of_length_le (by omega)]
 rw [e1,e4,fG,e2,List.append_nil,List.append_assoc]
 have:=List.take_append_of_le_length (l₁:=R.take q) (l₂:=z++t) (i:=q) (by omega)
 rw [this,List.take_of_length_le (by omega)]
theorem ev {α:Type} (R:List α) (i:Nat) (x:α) (h:i≤R.length):R.insertIdx i x=R.take i++x::R.drop i:=by
 induction R generalizing i with
 |nil => have:i=0:=by simpa using h
         subst this;rfl
 | cons a R ih=>
   cases i with
   |zero=>rfl
   |succ i=>simp only [List.insertIdx_succ_cons,List.take_succ_cons,List.drop_succ_cons,List.cons_append];rw [ih i (by simpa using h)]
theorem dj {α β:Type} (f:α→β) (l:List α) (i:Nat):(l.map f).eraseIdx i=(l.eraseIdx i).map f:=by rw [fG,fG,List.map_append,List.map_take,List.map_drop]
theorem dH {α:Type} (l:List α) (i:Nat) (h:i<l.length):(l.eraseIdx i).length=l.length-1:=List.length_eraseIdx_of_lt h
theorem qj {α β:Type} (f:α→β) (l:List α) (i:Nat) (h:i<l.length):((l.eraseIdx i).map f).take (l.length-1)=(l.eraseIdx i).map f:=List.take_of_length_le (by rw [List.length_map,dH _ _ h];omega)
theorem fK {α:Type} (l:List α) (i:Nat) (x z:α) (h:i≤l.length):(l.insertIdx i x).getD i z=x:=by
 rw [ev _ _ _ h,List.getD_eq_getElem?_getD,List.getElem?_append_right (by rw [List.length_take];omega)]
 have:i-(l.take i).length=0:=by rw [List.length_take];omega
 rw [this];rfl
theorem xM {α β:Type} (f:α→β) (l:List α) (i:Nat) (x:α) (z:β) (h:i≤l.length):((l.insertIdx i x).map f).getD i z=f x:=by
 rw [←jr];exact fK _ _ _ _ (by simpa using h)
theorem IL {α:Type} (l:List α) (i:Nat) (x y:α) (h:i≤l.length):(l.insertIdx i x).set i y=l.insertIdx i y:=by
 rw [ev _ _ _ h,ev _ _ _ h]
 have e:(l.take i).length=i:=by simp;omega
 rw [List.set_append_right _ _ (by omega),e,Nat.sub_self];rfl
theorem eI {α:Type} (l:List α) (i:Nat) (x:α) (h:i≤l.length):(l.insertIdx i x).length=l.length+1:=by rw [ev _ _ _ h];simp;omega
theorem vv {α β:Type} (f:α→β) (l:List α) (i:Nat) (x:α) (h:i≤l.length):((l.insertIdx i x).map f).take (l.length+1)=(l.insertIdx i x).map f:=List.take_of_length_le (by rw [List.length_map,eI _ _ _ h];omega)
theorem eJ {α:Type} (l:List α) (i k:Nat) (x z:α) (h:i≤l.length) (hk:k<i):(l.insertIdx i x).getD k z=l.getD k z:=by
 rw [ev _ _ _ h,List.getD_eq_getElem?_getD,List.getElem?_append_left (by rw [List.length_take];omega),List.getElem?_take_of_lt hk,List.getD_eq_getElem?_getD]
theorem rR {α β:Type} (f:α→β) (l:List α) (x:α):(List.map f (l++[x])).take (l.length+1)=List.map f (l++[x]):=List.take_of_length_le (by simp)
theorem jk {α:Type} {A B:List α} {n:Nat} (h:n=A.length):(A++B).take n=A:=by subst h;simp
theorem zr {α:Type} {A B:List α} {n:Nat} (h:n=A.length):(A++B).drop n=B:=by subst h;simp
theorem wW {α:Type} {R J:List α} {i a b:Nat} (h:i≤R.length) (ha:a=R.length-i) (hb:R.length-i≤b):List.take a (List.take b (List.drop i (R++J)))=R.drop i:=by
 rw [List.take_take,Nat.min_eq_left (by omega),List.drop_append_of_le_length h]
 exact jk (by simp;omega)
theorem uP {α:Type} {R J X:List α} {r:α} {i a b c d:Nat} (h:i<R.length) (ha:a=R.length-i) (hb:R.length-i≤b) (hc:1≤c) (hd:d=1) :
  List.take (R.length+1) (List.take i (List.take (i+1) (R++J)++List.take a (List.take b (List.drop i (R++J)))++X)++List.take c [r]++List.drop (i+d) (List.take (i+1) (R++J)++List.take a (List.take b (List.drop i (R++J)))++X))=R.insertIdx i r:=by
 subst hd
 have e1:List.take (i+1) (R++J)=R.take (i+1):=List.take_append_of_le_length (by omega)
 have e2:(R.take (i+1)).length=i+1:=by simp;omega
 have e3:List.take c [r]=[r]:=List.take_of_length_le (by simpa using hc)
 rw [wW (by omega) ha hb,e1,e3,List.append_assoc (List.take (i+1) R),zr (n:=i+1) e2.symm,ev _ _ _ (by omega)]
 have e4:List.take i (List.take (i+1) R++(List.drop i R++X))=R.take i:=by
  rw [List.take_append_of_le_length (by rw [e2];omega),List.take_take,Nat.min_eq_left (by omega)]
 rw [e4]
 have:List.take i R++[r]++(List.drop i R++X)=(List.take i R++r::List.drop i R)++X:=by simp
 rw [this]
 exact jk (by simp;omega)
theorem mI {α:Type} {R J:List α} {r z:α} {i m c d e f g:Nat} (h:i<R.length) (hm:m=R.length+1-i) (hc:1≤c) (hd:d=1) (he:e=R.length-i) (hf:R.length-i≤f) (hg:g=R.length+1) :
  List.take (i+1) (List.take i (List.take i (R++J)++List.replicate m z)++List.take c [r]++List.drop (i+d) (List.take i (R++J)++List.replicate m z))++List.take e (List.take f (List.drop i (R++J))) ++
   List.drop g (List.take i (List.take i (R++J)++List.replicate m z)++List.take c [r]++List.drop (i+d) (List.take i (R++J)++List.replicate m z))=R.insertIdx i r:=by
 subst hd;subst hm;subst hg
 have e1:List.take i (R++J)=R.take i:=List.take_append_of_le_length (by omega)
 have e2:(R.take i).length=i:=by simp;omega
 have e3:List.take c [r]=[r]:=List.take_of_length_le (by simpa using hc)
 rw [wW (by omega) he hf,e1,e3,jk (n:=i) e2.symm,ev _ _ _ (by omega)]
 have e4:(List.take i R++[r]).length=i+1:=by simp;omega
 have e5:List.drop (R.length+1) (List.take i R++[r]++List.drop (i+1) (List.take i R++List.replicate (R.length+1-i) z))=[]:=List.drop_eq_nil_of_le (by simp;omega)
 rw [e5,jk e4.symm,List.append_nil,List.append_assoc];rfl
theorem BB (rs:List (List DV)) (i:Nat) (hi:i<rs.length) (hb:rs.length*48≤140737488351232):ab Tryz.prog [.rows 3 rs] 261 [.osl 0 3 0 rs.length,I i,I ((i:Int)+1)] (cY (.osl 1 3 0 (rs.length-1)) [.dead,.rows 3 (rs.eraseIdx i)]):=by
 refine zJ Tryz.func261 Tryz.ntmps261 Tryz.results261 ?_;simp only [go_sem]
 refine AWP.reveal 0 (k:=0) (sz:=3) (off:=0) (n:=rs.length) rfl (by omega) rfl (by decide) fun junk hj hjl=>?_
 simp only [go_sem,Nat.zero_add] at hjl ⊢
 by_cases hN:i+1<rs.length+junk.length
 ·(refine zW qw zn (zx @if_pos.{1} (zx @if_neg.{1} (zx @di (zx @dc (zx @List.length_take.{0} (zx @List.length_drop.{0} @Nat.min_eq_left)))))) (z1 ?_)<;>(repeat with_reducible intro hc))
  refine bp (by first|exact .inl rfl|exact .inr rfl) (by simp (disch:=omega) only [go_sem]) ?_
  simp (disch:=omega) only [go_sem]
  rw [show i+(rs.length-(i+1))=rs.length-1 from by omega]
  refine ag.moved rfl (ag.done rfl ?_)
  rw [m9 hi rfl rfl];rfl
 ·(refine zW qw zn (zx @if_pos.{1} (zx @if_neg.{1} (zx @di (zx @dc (zx @List.length_take.{0} (zx @List.length_drop.{0} @Nat.min_eq_left)))))) (z1 ?_)<;>(repeat with_reducible intro hc))
  refine bp (by first|exact .inl rfl|exact .inr rfl) (by simp (disch:=omega) only [go_sem]) ?_
  simp (disch:=omega) only [go_sem]
  rw [show i+0=rs.length-1 from by omega]
  refine ag.moved rfl (ag.done rfl ?_)
  rw [mO (by omega) (by omega)];rfl
set_option maxHeartbeats 1000000 in
theorem BL (rs:List (List DV)) (r:List DV) (i:Nat) (hi:i≤rs.length) (hb:(rs.length+1)*48≤140737488351232) :
  ab Tryz.prog [.rows 3 rs,.rows 3 [r]] 139 [.osl 0 3 0 rs.length,I i,.osl 1 3 0 1] (cY (.osl 2 3 0 (rs.length+1)) [.dead,.dead,.rows 3 (rs.insertIdx i r)]):=by
 refine zJ Tryz.func139 Tryz.ntmps139 Tryz.results139 ?_;simp only [go_sem]
 by_cases hin:i=rs.length
 ·subst hin
  (refine zW qw zn (zx @if_pos.{1} (zx @if_neg.{1} (zx @di @dc))) (z1 ?_)<;>(repeat with_reducible intro hc))
  refine bp (by first|exact .inl rfl|exact .inr rfl) (by simp (disch:=omega) only [go_sem]) ?_
  simp (disch:=omega) only [go_sem]
  refine ag.framed [0,1,2] rfl (by simp) (by decide) (by intro k hk;match k,hk with|0,_=>rfl|1,_=>rfl) ⟨rfl,by simp [inV]⟩ ?_ (ag.done (hp:=[.dead,.dead,.rows 3 (List.take rs.length rs++[r])]) rfl ?_)
  ·simp only [go_sem]
  ·rw [ev _ _ _ (Nat.le_refl _),List.drop_length]
 refine AWP.reveal 0 (k:=0) (sz:=3) (off:=0) (n:=rs.length) rfl (by omega) rfl (by decide) fun junk hj hjl=>?_
 simp only [go_sem,Nat.zero_add] at hjl ⊢
 by_cases hN:rs.length+1≤rs.length+junk.length
 ·(repeat' first
|(with_reducible refine AR.f ?_)
|refine ap (by decide) ?_
|(with_reducible refine AWP.cond rfl ?_ ?_<;>intro hc<;>(try simp only [hcs,beq_iff_eq,ge_iff_le,gt_iff_lt] at hc))
|((first|((first|(with_reducible first|refine zR ?_|refine zQ (by decide +kernel) ?_|refine zD (by decide +kernel) ?_|refine zE (by decide +kernel) ?_|refine zG (by decide +kernel) ?_));intro K hK)|refine acallHK_ext (ext_overlaps Tryz.func200 (by kernel_rfl) (by kernel_rfl) (by kernel_rfl) (tS:=44) (tR:=4) (e:=102) (by kernel_rfl) bQ (by simp only [Lq,Ir]) (by simp [JT,AZ]) (k:=1) (k':=0) rfl (.inl ⟨rfl,rfl⟩) rfl (.inr ⟨rfl,rfl⟩) (by decide) (by omega) (by omega) (by decide)) ?_|((first|(with_reducible refine aunder_i ?_ ?_<;>intro hg)|with_reducible intro hg)<;>(first|(exfalso;simp at hg;done)|(have hg':=hg;(try simp only [hcs,beq_iff_eq,ge_iff_le,gt_iff_lt] at hg');(try simp only [hg])))))<;>(try simp (disch:=omega) only [go_sem,aa,if_pos,if_neg,di,dc,List.length_take,List.length_drop,Nat.min_eq_left])<;>(repeat' with_reducible refine And.intro ?_ ?_)<;>(try (with_reducible refine hK _ ?_;clear hK K)))
|omega)
  refine bp (by first|exact .inl rfl|exact .inr rfl) (by simp (disch:=omega) only [go_sem]) ?_
  simp (disch:=omega) only [go_sem]
  refine ag.moved rfl ?_
  refine ag.framed [0,1,2] rfl (by simp) (by decide) (by intro k hk;match k,hk with|0,_=>rfl|1,_=>rfl) ⟨rfl,by simp [inV]⟩ ?_ (ag.done (hp:=[.dead,.dead,.rows 3 (rs.insertIdx i r)]) rfl rfl)
  rw [uP (by omega) (by omega) (by omega) (by omega) (by omega)]
  simp only [go_sem]
 ·(refine zW qw zn (zx @if_pos.{1} (zx @if_neg.{1} (zx @di (zx @dc (zx @uG (zx @uM (zx @List.length_take.{0} (zx @List.length_drop.{0} @Nat.min_eq_left)))))))) (z1 ?_)<;>(repeat with_reducible intro hc))
  refine bp (by first|exact .inl rfl|exact .inr rfl) (by simp (disch:=omega) only [go_sem]) ?_
  simp (disch:=omega) only [go_sem]
  rw [mI (by omega) rfl (by omega) (by omega) (by omega) (by omega) (by omega),show i+(rs.length+1-i)=rs.length+1 from by omega]
  refine ag.framed [0,1,2] rfl (by simp) (by decide) (by intro k hk;match k,hk with|0,_=>rfl|1,_=>rfl) ⟨rfl,by simp [inV]⟩ ?_ (ag.done (hp:=[.dead,.dead,.rows 3 (rs.insertIdx i r)]) rfl rfl)
  simp only [go_sem]
theorem z7 (rs:List (List DV)) (i:Nat) (hi:i<rs.length) (hb:rs.length*40≤140737488351232):ab Tryz.prog [.rows 3 rs] 243 [.osl 0 3 0 rs.length,I i,I ((i:Int)+1)] (cY (.osl 1 3 0 (rs.length-1)) [.dead,.rows 3 (rs.eraseIdx i)]):=by
 refine zJ Tryz.func243 Tryz.ntmps243 Tryz.results243 ?_;simp only [go_sem]
 refine AWP.reveal 0 (k:=0) (sz:=3) (off:=0) (n:=rs.length) rfl (by omega) rfl (by decide) fun junk hj hjl=>?_
 simp only [go_sem,Nat.zero_add] at hjl ⊢
 by_cases hN:i+1<rs.length+junk.length
 ·(refine zW qw zn (zx @if_pos.{1} (zx @if_neg.{1} (zx @di (zx @dc (zx @List.length_take.{0} (zx @List.length_drop.{0} @Nat.min_eq_left)))))) (z1 ?_)<;>(repeat with_reducible intro hc))
  refine bp (by first|exact .inl rfl|exact .inr rfl) (by simp (disch:=omega) only [go_sem]) ?_
  simp (disch:=omega) only [go_sem]
  rw [show i+(rs.length-(i+1))=rs.length-1 from by omega]
  refine ag.moved rfl (ag.done rfl ?_)
  rw [m9 hi rfl rfl];rfl
 ·(refine zW qw zn (zx @if_pos.{1} (zx @if_neg.{1} (zx @di (zx @dc (zx @List.length_take.{0} (zx @List.length_drop.{0} @Nat.min_eq_left)))))) (z1 ?_)<;>(repeat with_reducible intro hc))
  refine bp (by first|exact .inl rfl|exact .inr rfl) (by simp (disch:=omega) only [go_sem]) ?_
  simp (disch:=omega) only [go_sem]
  rw [show i+0=rs.length-1 from by omega]
  refine ag.moved rfl (ag.done rfl ?_)
  rw [mO (by omega) (by omega)];rfl
set_option maxHeartbeats 1000000 in
theorem qb (rs:List (List DV)) (r:List DV) (i:Nat) (hi:i≤rs.length) (hb:(rs.length+1)*40≤140737488351232) :
  ab Tryz.prog [.rows 3 rs,.rows 3 [r]] 181 [.osl 0 3 0 rs.length,I i,.osl 1 3 0 1] (cY (.osl 2 3 0 (rs.length+1)) [.dead,.dead,.rows 3 (rs.insertIdx i r)]):=by
 refine zJ Tryz.func181 Tryz.ntmps181 Tryz.results181 ?_;simp only [go_sem]
 by_cases hin:i=rs.length
 ·subst hin
  (refine zW qw zn (zx @if_pos.{1} (zx @if_neg.{1} (zx @di @dc))) (z1 ?_)<;>(repeat with_reducible intro hc))
  refine bp (by first|exact .inl rfl|exact .inr rfl) (by simp (disch:=omega) only [go_sem]) ?_
  simp (disch:=omega) only [go_sem]
  refine ag.framed [0,1,2] rfl (by simp) (by decide) (by intro k hk;match k,hk with|0,_=>rfl|1,_=>rfl) ⟨rfl,by simp [inV]⟩ ?_ (ag.done (hp:=[.dead,.dead,.rows 3 (List.take rs.length rs++[r])]) rfl ?_)
  ·simp only [go_sem]
  ·rw [ev _ _ _ (Nat.le_refl _),List.drop_length]
 refine AWP.reveal 0 (k:=0) (sz:=3) (off:=0) (n:=rs.length) rfl (by omega) rfl (by decide) fun junk hj hjl=>?_
 simp only [go_sem,Nat.zero_add] at hjl ⊢
 by_cases hN:rs.length+1≤rs.length+junk.length
 ·(repeat' first
|(with_reducible refine AR.f ?_)
|refine ap (by decide) ?_
|(with_reducible refine AWP.cond rfl ?_ ?_<;>intro hc<;>(try simp only [hcs,beq_iff_eq,ge_iff_le,gt_iff_lt] at hc))
|((first|((first|(with_reducible first|refine zR ?_|refine zQ (by decide +kernel) ?_|refine zD (by decide +kernel) ?_|refine zE (by decide +kernel) ?_|refine zG (by decide +kernel) ?_));intro K hK)|refine acallHK_ext (ext_overlaps Tryz.func234 (by kernel_rfl) (by kernel_rfl) (by kernel_rfl) (tS:=58) (tR:=4) (e:=107) (by kernel_rfl) bQ (by simp only [L4,Jc]) (by simp [JS,Aw]) (k:=1) (k':=0) rfl (.inl ⟨rfl,rfl⟩) rfl (.inr ⟨rfl,rfl⟩) (by decide) (by omega) (by omega) (by decide)) ?_|((first|(with_reducible refine aunder_i ?_ ?_<;>intro hg)|with_reducible intro hg)<;>(first|(exfalso;simp at hg;done)|(have hg':=hg;(try simp only [hcs,beq_iff_eq,ge_iff_le,gt_iff_lt] at hg');(try simp only [hg])))))<;>(try simp (disch:=omega) only [go_sem,aa,if_pos,if_neg,di,dc,List.length_take,List.length_drop,Nat.min_eq_left])<;>(repeat' with_reducible refine And.intro ?_ ?_)<;>(try (with_reducible refine hK _ ?_;clear hK K)))
|omega)
  refine bp (by first|exact .inl rfl|exact .inr rfl) (by simp (disch:=omega) only [go_sem]) ?_
  simp (disch:=omega) only [go_sem]
  refine ag.moved rfl ?_
  refine ag.framed [0,1,2] rfl (by simp) (by decide) (by intro k hk;match k,hk with|0,_=>rfl|1,_=>rfl) ⟨rfl,by simp [inV]⟩ ?_ (ag.done (hp:=[.dead,.dead,.rows 3 (rs.insertIdx i r)]) rfl rfl)
  rw [uP (by omega) (by omega) (by omega) (by omega) (by omega)]
  simp only [go_sem]
 ·(refine zW qw zn (zx @if_pos.{1} (zx @if_neg.{1} (zx @di (zx @dc (zx @uG (zx @uM (zx @List.length_take.{0} (zx @List.length_drop.{0} @Nat.min_eq_left)))))))) (z1 ?_)<;>(repeat with_reducible intro hc))
  refine bp (by first|exact .inl rfl|exact .inr rfl) (by simp (disch:=omega) only [go_sem]) ?_
  simp (disch:=omega) only [go_sem]
  rw [mI (by omega) rfl (by omega) (by omega) (by omega) (by omega) (by omega),show i+(rs.length+1-i)=rs.length+1 from by omega]
  refine ag.framed [0,1,2] rfl (by simp) (by decide) (by intro k hk;match k,hk with|0,_=>rfl|1,_=>rfl) ⟨rfl,by simp [inV]⟩ ?_ (ag.done (hp:=[.dead,.dead,.rows 3 (rs.insertIdx i r)]) rfl rfl)
  simp only [go_sem]
theorem tI (rs:List (List DV)) (i:Nat) (hi:i<rs.length) (hb:rs.length*88≤140737488351232):ab Tryz.prog [.rows 9 rs] 127 [.osl 0 9 0 rs.length,I i,I ((i:Int)+1)] (cY (.osl 1 9 0 (rs.length-1)) [.dead,.rows 9 (rs.eraseIdx i)]):=by
 refine zJ Tryz.func127 Tryz.ntmps127 Tryz.results127 ?_;simp only [go_sem]
 refine AWP.reveal 0 (k:=0) (sz:=9) (off:=0) (n:=rs.length) rfl (by omega) rfl (by decide) fun junk hj hjl=>?_
 simp only [go_sem,Nat.zero_add] at hjl ⊢
 by_cases hN:i+1<rs.length+junk.length
 ·(refine zW qw zn (zx @if_pos.{1} (zx @if_neg.{1} (zx @di (zx @dc (zx @List.length_take.{0} (zx @List.length_drop.{0} @Nat.min_eq_left)))))) (z1 ?_)<;>(repeat with_reducible intro hc))
  refine bp (by first|exact .inl rfl|exact .inr rfl) (by simp (disch:=omega) only [go_sem]) ?_
  simp (disch:=omega) only [go_sem]
  rw [show i+(rs.length-(i+1))=rs.length-1 from by omega]
  refine ag.moved rfl (ag.done rfl ?_)
  rw [m9 hi rfl rfl];rfl
 ·(refine zW qw zn (zx @if_pos.{1} (zx @if_neg.{1} (zx @di (zx @dc (zx @List.length_take.{0} (zx @List.length_drop.{0} @Nat.min_eq_left)))))) (z1 ?_)<;>(repeat with_reducible intro hc))
  refine bp (by first|exact .inl rfl|exact .inr rfl) (by simp (disch:=omega) only [go_sem]) ?_
  simp (disch:=omega) only [go_sem]
  rw [show i+0=rs.length-1 from by omega]
  refine ag.moved rfl (ag.done rfl ?_)
  rw [mO (by omega) (by omega)];rfl
set_option maxHeartbeats 1000000 in
theorem Bx (rs:List (List DV)) (r:List DV) (i:Nat) (hi:i≤rs.length) (hb:(rs.length+1)*88≤140737488351232) :
  ab Tryz.prog [.rows 9 rs,.rows 9 [r]] 129 [.osl 0 9 0 rs.length,I i,.osl 1 9 0 1] (cY (.osl 2 9 0 (rs.length+1)) [.dead,.dead,.rows 9 (rs.insertIdx i r)]):=by
 refine zJ Tryz.func129 Tryz.ntmps129 Tryz.results129 ?_;simp only [go_sem]
 by_cases hin:i=rs.length
 ·subst hin
  (refine zW qw zn (zx @if_pos.{1} (zx @if_neg.{1} (zx @di @dc))) (z1 ?_)<;>(repeat with_reducible intro hc))
  refine bp (by first|exact .inl rfl|exact .inr rfl) (by simp (disch:=omega) only [go_sem]) ?_
  simp (disch:=omega) only [go_sem]
  refine ag.framed [0,1,2] rfl (by simp) (by decide) (by intro k hk;match k,hk with|0,_=>rfl|1,_=>rfl) ⟨rfl,by simp [inV]⟩ ?_ (ag.done (hp:=[.dead,.dead,.rows 9 (List.take rs.length rs++[r])]) rfl ?_)
  ·simp only [go_sem]
  ·rw [ev _ _ _ (Nat.le_refl _),List.drop_length]
 refine AWP.reveal 0 (k:=0) (sz:=9) (off:=0) (n:=rs.length) rfl (by omega) rfl (by decide) fun junk hj hjl=>?_
 simp only [go_sem,Nat.zero_add] at hjl ⊢
 by_cases hN:rs.length+1≤rs.length+junk.length
 ·(repeat' first
|(with_reducible refine AR.f ?_)
|refine ap (by decide) ?_
|(with_reducible refine AWP.cond rfl ?_ ?_<;>intro hc<;>(try simp only [hcs,beq_iff_eq,ge_iff_le,gt_iff_lt] at hc))
|((first|((first|(with_reducible first|refine zR ?_|refine zQ (by decide +kernel) ?_|refine zD (by decide +kernel) ?_|refine zE (by decide +kernel) ?_|refine zG (by decide +kernel) ?_));intro K hK)|refine acallHK_ext (ext_overlaps Tryz.func191 (by kernel_rfl) (by kernel_rfl) (by kernel_rfl) (tS:=50) (tR:=4) (e:=93) (by kernel_rfl) bQ (by simp only [LL,I0]) (by simp [Mz,Je]) (k:=1) (k':=0) rfl (.inl ⟨rfl,rfl⟩) rfl (.inr ⟨rfl,rfl⟩) (by decide) (by omega) (by omega) (by decide)) ?_|((first|(with_reducible refine aunder_i ?_ ?_<;>intro hg)|with_reducible intro hg)<;>(first|(exfalso;simp at hg;done)|(have hg':=hg;(try simp only [hcs,beq_iff_eq,ge_iff_le,gt_iff_lt] at hg');(try simp only [hg])))))<;>(try simp (disch:=omega) only [go_sem,aa,if_pos,if_neg,di,dc,List.length_take,List.length_drop,Nat.min_eq_left])<;>(repeat' with_reducible refine And.intro ?_ ?_)<;>(try (with_reducible refine hK _ ?_;clear hK K)))
|omega)
  refine bp (by first|exact .inl rfl|exact .inr rfl) (by simp (disch:=omega) only [go_sem]) ?_
  simp (disch:=omega) only [go_sem]
  refine ag.moved rfl ?_
  refine ag.framed [0,1,2] rfl (by simp) (by decide) (by intro k hk;match k,hk with|0,_=>rfl|1,_=>rfl) ⟨rfl,by simp [inV]⟩ ?_ (ag.done (hp:=[.dead,.dead,.rows 9 (rs.insertIdx i r)]) rfl rfl)
  rw [uP (by omega) (by omega) (by omega) (by omega) (by omega)]
  simp only [go_sem]
 ·(refine zW qw zn (zx @if_pos.{1} (zx @if_neg.{1} (zx @di (zx @dc (zx @uG (zx @uM (zx @List.length_take.{0} (zx @List.length_drop.{0} @Nat.min_eq_left)))))))) (z1 ?_)<;>(repeat with_reducible intro hc))
  refine bp (by first|exact .inl rfl|exact .inr rfl) (by simp (disch:=omega) only [go_sem]) ?_
  simp (disch:=omega) only [go_sem]
  rw [mI (by omega) rfl (by omega) (by omega) (by omega) (by omega) (by omega),show i+(rs.length+1-i)=rs.length+1 from by omega]
  refine ag.framed [0,1,2] rfl (by simp) (by decide) (by intro k hk;match k,hk with|0,_=>rfl|1,_=>rfl) ⟨rfl,by simp [inV]⟩ ?_ (ag.done (hp:=[.dead,.dead,.rows 9 (rs.insertIdx i r)]) rfl rfl)
  simp only [go_sem]
theorem FX (rs:List (List DV)) (i:Nat) (hi:i<rs.length) (hb:rs.length*8≤140737488351232):ab Tryz.prog [.rows 1 rs] 71 [.osl 0 1 0 rs.length,I i,I ((i:Int)+1)] (cY (.osl 1 1 0 (rs.length-1)) [.dead,.rows 1 (rs.eraseIdx i)]):=by
 refine zJ Tryz.func71 Tryz.ntmps71 Tryz.results71 ?_;simp only [go_sem]
 refine AWP.reveal 0 (k:=0) (sz:=1) (off:=0) (n:=rs.length) rfl (by omega) rfl (by decide) fun junk hj hjl=>?_
 simp only [go_sem,Nat.zero_add] at hjl ⊢
 by_cases hN:i+1<rs.length+junk.length
 ·(refine zW qw zn (zx @if_pos.{1} (zx @if_neg.{1} (zx @di (zx @dc (zx @List.length_take.{0} (zx @List.length_drop.{0} @Nat.min_eq_left)))))) (z1 ?_)<;>(repeat with_reducible intro hc))
  refine bp (by first|exact .inl rfl|exact .inr rfl) (by simp (disch:=omega) only [go_sem]) ?_
  simp (disch:=omega) only [go_sem]
  rw [show i+(rs.length-(i+1))=rs.length-1 from by omega]
  refine ag.moved rfl (ag.done rfl ?_)
  rw [m9 hi rfl rfl];rfl
 ·(refine zW qw zn (zx @if_pos.{1} (zx @if_neg.{1} (zx @di (zx @dc (zx @List.length_take.{0} (zx @List.length_drop.{0} @Nat.min_eq_left)))))) (z1 ?_)<;>(repeat with_reducible intro hc))
  refine bp (by first|exact .inl rfl|exact .inr rfl) (by simp (disch:=omega) only [go_sem]) ?_
  simp (disch:=omega) only [go_sem]
  rw [show i+0=rs.length-1 from by omega]
  refine ag.moved rfl (ag.done rfl ?_)
  rw [mO (by omega) (by omega)];rfl
set_option maxHeartbeats 1000000 in
theorem FL (rs:List (List DV)) (r:List DV) (i:Nat) (hi:i≤rs.length) (hb:(rs.length+1)*8≤140737488351232) :
  ab Tryz.prog [.rows 1 rs,.rows 1 [r]] 70 [.osl 0 1 0 rs.length,I i,.osl 1 1 0 1] (cY (.osl 2 1 0 (rs.length+1)) [.dead,.dead,.rows 1 (rs.insertIdx i r)]):=by
 refine zJ Tryz.func70 Tryz.ntmps70 Tryz.results70 ?_;simp only [go_sem]
 by_cases hin:i=rs.length
 ·subst hin
  (refine zW qw zn (zx @if_pos.{1} (zx @if_neg.{1} (zx @di @dc))) (z1 ?_)<;>(repeat with_reducible intro hc))
  refine bp (by first|exact .inl rfl|exact .inr rfl) (by simp (disch:=omega) only [go_sem]) ?_
  simp (disch:=omega) only [go_sem]
  refine ag.framed [0,1,2] rfl (by simp) (by decide) (by intro k hk;match k,hk with|0,_=>rfl|1,_=>rfl) ⟨rfl,by simp [inV]⟩ ?_ (ag.done (hp:=[.dead,.dead,.rows 1 (List.take rs.length rs++[r])]) rfl ?_)
  ·simp only [go_sem]
  ·rw [ev _ _ _ (Nat.le_refl _),List.drop_length]
 refine AWP.reveal 0 (k:=0) (sz:=1) (off:=0) (n:=rs.length) rfl (by omega) rfl (by decide) fun junk hj hjl=>?_
 simp only [go_sem,Nat.zero_add] at hjl ⊢
 by_cases hN:rs.length+1≤rs.length+junk.length
 ·(repeat' first
|(with_reducible refine AR.f ?_)
|refine ap (by decide) ?_
|(with_reducible refine AWP.cond rfl ?_ ?_<;>intro hc<;>(try simp only [hcs,beq_iff_eq,ge_iff_le,gt_iff_lt] at hc))
|((first|((first|(with_reducible first|refine zR ?_|refine zQ (by decide +kernel) ?_|refine zD (by decide +kernel) ?_|refine zE (by decide +kernel) ?_|refine zG (by decide +kernel) ?_));intro K hK)|refine acallHK_ext (ext_overlaps Tryz.func125 (by kernel_rfl) (by kernel_rfl) (by kernel_rfl) (tS:=51) (tR:=4) (e:=3) (by kernel_rfl) bQ (by simp only [LY,HI]) (by simp [T_3,ty3]) (k:=1) (k':=0) rfl (.inl ⟨rfl,rfl⟩) rfl (.inr ⟨rfl,rfl⟩) (by decide) (by omega) (by omega) (by decide)) ?_|((first|(with_reducible refine aunder_i ?_ ?_<;>intro hg)|with_reducible intro hg)<;>(first|(exfalso;simp at hg;done)|(have hg':=hg;(try simp only [hcs,beq_iff_eq,ge_iff_le,gt_iff_lt] at hg');(try simp only [hg])))))<;>(try simp (disch:=omega) only [go_sem,aa,if_pos,if_neg,di,dc,List.length_take,List.length_drop,Nat.min_eq_left])<;>(repeat' with_reducible refine And.intro ?_ ?_)<;>(try (with_reducible refine hK _ ?_;clear hK K)))
|omega)
  refine bp (by first|exact .inl rfl|exact .inr rfl) (by simp (disch:=omega) only [go_sem]) ?_
  simp (disch:=omega) only [go_sem]
  refine ag.moved rfl ?_
  refine ag.framed [0,1,2] rfl (by simp) (by decide) (by intro k hk;match k,hk with|0,_=>rfl|1,_=>rfl) ⟨rfl,by simp [inV]⟩ ?_ (ag.done (hp:=[.dead,.dead,.rows 1 (rs.insertIdx i r)]) rfl rfl)
  rw [uP (by omega) (by omega) (by omega) (by omega) (by omega)]
  simp only [go_sem]
 ·(refine zW qw zn (zx @if_pos.{1} (zx @if_neg.{1} (zx @di (zx @dc (zx @uG (zx @uM (zx @List.length_take.{0} (zx @List.length_drop.{0} @Nat.min_eq_left)))))))) (z1 ?_)<;>(repeat with_reducible intro hc))
  refine bp (by first|exact .inl rfl|exact .inr rfl) (by simp (disch:=omega) only [go_sem]) ?_
  simp (disch:=omega) only [go_sem]
  rw [mI (by omega) rfl (by omega) (by omega) (by omega) (by omega) (by omega),show i+(rs.length+1-i)=rs.length+1 from by omega]
  refine ag.framed [0,1,2] rfl (by simp) (by decide) (by intro k hk;match k,hk with|0,_=>rfl|1,_=>rfl) ⟨rfl,by simp [inV]⟩ ?_ (ag.done (hp:=[.dead,.dead,.rows 1 (rs.insertIdx i r)]) rfl rfl)
  simp only [go_sem]
attribute [go_sem] Tryz.ntmps141 Tryz.results141 Tryz.ntmps142 Tryz.results142 Tryz.ntmps210 Tryz.results210 Tryz.ntmps211 Tryz.results211 Tryz.ntmps255 Tryz.results255 Tryz.ntmps258 Tryz.results258
def Ap (f:AFile):Prop:=a8 f.name=true∧f.safe.length+f.tail.length≤1048576
instance (f:AFile):Decidable (Ap f):=by unfold Ap;infer_instance
def xB (l:List AFile) (k:Nat):Prop:=Ap (l.getD k default)∧(0<k→(l.getD (k-1) default).name<(l.getD k default).name)
instance (l:List AFile) (k:Nat):Decidable (xB l k):=by unfold xB;infer_instance
def bF (l:List AFile):Bool:=decide (l.length≤16∧∀ k,k<l.length→xB l k)
theorem dq {l:List AFile} (h:bF l=true):aV (l.map AFile.name):=by
 intro k hk
 unfold bF at h;rw [decide_eq_true_eq] at h
 have:=(h.2 (k+1) (by simpa using hk)).2 (by omega)
 have e:∀ j,(l.map AFile.name).getD j []=(l.getD j default).name:=fun j=>fM AFile.name l j default
 rw [e,e]
 simpa using this
theorem vI (n:Nat):((n:Int)-1).toNat=n-1:=by omega
theorem g0 {l:List AFile} (h:∀ f,f∈l→f.wf) (k:Nat):okS (l.getD k default).name∧(l.getD k default).name.length≤140737488351232∧(l.getD k default).safe.length≤140737488351232∧(l.getD k default).tail.length≤140737488351232:=by
 by_cases e:k<l.length
 ·have:=h _ (bU l k e)
  exact ⟨this.1,this.1,this.2.1,this.2.2⟩
 ·rw [List.getD_eq_getElem?_getD,List.getElem?_eq_none (by omega)];exact ⟨show okS [] by unfold okS;decide,by decide,by decide,by decide⟩
theorem good_d_c (d:ADisk) (h:d.files.length*48≤140737488351232) (hw:∀ f,f∈d.files→f.wf):ab Tryz.prog [] 36 [d.av] (ret (B (bF d.files))):=by
 refine zJ Tryz.func36 Tryz.ntmps36 Tryz.results36 ?_;simp only [go_sem]
 (refine zW qw zn trivial (z2 ?_ ?_)<;>(repeat with_reducible intro hc))
 ·(refine zE2 trivial ?_;(try simp (disch:=omega) only [go_sem,aa,I,B,S,zj]))
  unfold bF;symm;rw [decide_eq_false_iff_not];rintro ⟨a,-⟩;omega
 refine AWP.loopS (ι:=Nat) (fun k=>k≤d.files.length∧∀ j,j<k→xB d.files j) (fun k=>d.files.length-k) [1,10,11] (fun k=>[(12,I k)]) 0 ?_ (by simp (disch:=omega) only [go_sem,aa,true_and]) ?_
 ·exact ⟨by omega,by omega⟩
 intro k ⟨hk,hk2⟩
 obtain ⟨w0,w1,w2,w3⟩:=g0 hw k
 simp only [go_sem]
 (refine zW qw (z1 (ga _ w0)) (zx @vI @kz) (z3 ?_ ?_ ?_)<;>(repeat with_reducible intro hc))
 ·(refine zE2 trivial ?_;(try simp (disch:=omega) only [go_sem,aa,I,B,S,zj]))
  unfold bF;symm;rw [decide_eq_false_iff_not];rintro ⟨-,a⟩
  have a1:=a k (by assumption)
  rcases hc with (c|c)|c
  ·rw [a1.1.1] at c;exact absurd c (by simp)
  ·exact absurd (a1.2 (by omega)) (by simpa using c.2)
  ·have:=a1.1.2;omega
 ·refine ⟨k+1,⟨by omega,fun j hj=>?_⟩,by omega,?_⟩
  ·by_cases e:j=k
   ·subst e
    exact ⟨⟨hc.1.1,by omega⟩,fun h0=>(hc.1.2.resolve_left (by omega))⟩
   ·exact hk2 j (by omega)
  exact zFr [0] trivial
 ·(refine zE2 trivial ?_;(try simp (disch:=omega) only [go_sem,aa,I,B,S,zj]))
  unfold bF;symm;rw [decide_eq_true_eq];exact ⟨by omega,fun j hj=>hk2 j (by omega)⟩
theorem find_c (d:ADisk) (key:List UInt8) (h:d.files.length*48≤140737488351232) (hr:bF d.files=true) :
  ab Tryz.prog [] 137 [d.av,S key] (ret (.tup [I (place (d.files.map AFile.name) key),B (decide (key∈d.files.map AFile.name))])):=by
 refine zJ Tryz.func137 Tryz.ntmps137 Tryz.results137 ?_;simp only [go_sem]
 (refine zW qw (z1 (Hw _ key h (dq hr))) trivial (z1 ?_)<;>(repeat with_reducible intro hc))
 exact zEe trivial
theorem xx (l:List AFile) (h:l.length*48≤140737488351232):ab Tryz.prog [] 199 [.d (.sl 3 (l.map AFile.row))] (own 3 (l.map AFile.row)):=by
 refine zJ Tryz.func199 Tryz.ntmps199 Tryz.results199 ?_;simp only [go_sem]
 (repeat' first
|(with_reducible refine AR.f ?_)
|refine ap (by decide) ?_
|(with_reducible refine AWP.cond rfl ?_ ?_<;>intro hc<;>(try simp only [hcs,beq_iff_eq,ge_iff_le,gt_iff_lt] at hc))
|((first|((first|(with_reducible first|refine zR ?_|refine zQ (by decide +kernel) ?_|refine zD (by decide +kernel) ?_|refine zE (by decide +kernel) ?_|refine zG (by decide +kernel) ?_));intro K hK)|((first|(with_reducible refine aunder_i ?_ ?_<;>intro hg)|with_reducible intro hg)<;>(first|(exfalso;simp at hg;done)|(have hg':=hg;(try simp only [hcs,beq_iff_eq,ge_iff_le,gt_iff_lt] at hg');(try simp only [hg])))))<;>(try simp (disch:=omega) only [go_sem,aa])<;>(repeat' with_reducible refine And.intro ?_ ?_)<;>(try (with_reducible refine hK _ ?_;clear hK K)))
|omega)
 ·have e:l.length=0:=by
   rcases Nat.eq_zero_or_pos l.length with h0|h0
   ·exact h0
   ·rw [hg h0] at hc;simp at hc
  rw [fu e]
  (refine kN (by first|exact .inl rfl|exact .inr rfl) rfl ?_ ?_<;>simp (disch:=omega) only [go_sem,aa])
 ·(refine kB 1 (by first|exact .inl rfl|exact .inr rfl) rfl ?_ rfl rfl ?_<;>(try simp (disch:=omega) only [go_sem,aa,List.length_map]))
theorem dw (d:ADisk) (h:d.files.length*48≤140737488351232):ab Tryz.prog [] 138 [d.av] (cY (.agg [.osl 0 3 0 d.files.length]) [.rows 3 (d.files.map AFile.row)]):=by
 refine zJ Tryz.func138 Tryz.ntmps138 Tryz.results138 ?_;simp only [go_sem]
 (refine zW qw (z1 (xx _ h)) trivial (z1 ?_)<;>(repeat with_reducible intro hc))
 (refine zO ?_ ?_;(focus ((try simp (disch:=omega) only [go_sem,aa])<;>fail));simp (disch:=omega) only [go_sem,aa];refine ag.of_simp ?_ (ag.same ⟨rfl,rfl⟩);refine zV [2] rfl rfl rfl rfl ?_ ?_<;>simp (disch:=omega) only [go_sem,aa,true_or,or_true])
def readD (l:List AFile) (key:List UInt8):List UInt8×Int:=
 if bF l=false then ([],3) else if key∈l.map AFile.name then ((l.getD (place (l.map AFile.name) key) default).safe++(l.getD (place (l.map AFile.name) key) default).tail,0) else ([],7)
theorem ET (d:ADisk) (key:List UInt8) (h:d.files.length*48≤140737488351232) (hw:∀ f,f∈d.files→f.wf):ab Tryz.prog [] 82 [d.av,S key] (ret (.tup [S (readD d.files key).1,I (readD d.files key).2])):=by
 obtain ⟨w0,w1,w2,w3⟩:=g0 hw (place (d.files.map AFile.name) key)
 refine zJ Tryz.func82 Tryz.ntmps82 Tryz.results82 ?_;simp only [go_sem]
 (repeat' first
|(with_reducible refine AR.f ?_)
|refine ap (by decide) ?_
|(with_reducible refine AWP.cond rfl ?_ ?_<;>intro hc<;>(try simp only [hcs,beq_iff_eq,ge_iff_le,gt_iff_lt] at hc))
|((first|((first|(with_reducible first|refine zR ?_|refine zQ (by decide +kernel) ?_|refine zD (by decide +kernel) ?_|refine zE (by decide +kernel) ?_|refine zG (by decide +kernel) ?_));intro K hK)|((first|refine zA (good_d_c d h hw) ?_ ?_ ?_ ?_ ?_|refine zA (find_c d key h (by assumption)) ?_ ?_ ?_ ?_ ?_);(focus exact rfl);(focus exact rfl);iterate 2 (focus ((try simp (disch:=omega) only [go_sem,aa])<;>(try omega)<;>fail)))|((first|refine zN (find_c d key h (by assumption)) rfl ?_ ?_|refine zX (good_d_c d h hw) rfl ?_ ?_);(focus ((try simp (disch:=omega) only [go_sem,aa])<;>(try omega)<;>fail)))|((first|refine zX (find_c d key h (by assumption)) rfl ?_ ?_|refine zY (find_c d key h (by assumption)) ?_ ?_);(focus ((try simp (disch:=omega) only [go_sem,aa])<;>(try omega)<;>fail)))|((first|(with_reducible refine aunder_i ?_ ?_<;>intro hg)|with_reducible intro hg)<;>(first|(exfalso;simp at hg;done)|(have hg':=hg;(try simp only [hcs,beq_iff_eq,ge_iff_le,gt_iff_lt] at hg');(try simp only [hg])))))<;>(try simp (disch:=omega) only [go_sem,aa])<;>(repeat' with_reducible refine And.intro ?_ ?_)<;>(try (with_reducible refine hK _ ?_;clear hK K)))
|omega)
 all_goals (try unfold readD)
 ·rw [if_pos hc];exact zEe trivial
 ·rw [if_neg (by simp [*]),if_neg hc];exact zEe trivial
 ·have:=(ao (dq (by assumption)) hc).1;simp at this;omega
 ·have:=(ao (dq (by assumption)) hc).1;simp at this;omega
 ·rw [if_neg (by simp [*]),if_pos hc];exact zEe trivial
def bj (l:List AFile) (key:List UInt8) (F:AFile→AFile×Int):ADisk×Int:=
 if bF l=false then (default,3) else if key∈l.map AFile.name then
  (if (F (l.getD (place (l.map AFile.name) key) default)).2=0 then (⟨l.set (place (l.map AFile.name) key) (F (l.getD (place (l.map AFile.name) key) default)).1⟩,0) else (default,(F (l.getD (place (l.map AFile.name) key) default)).2)) else (default,7)
def mF (f:AFile):AFile×Int:=(⟨f.name,f.safe++f.tail,[]⟩,0)
def lP (n:Int) (f:AFile):AFile×Int:=if n<0∨(f.safe.length:Int)+f.tail.length<n then (default,3) else (⟨f.name,(f.safe++f.tail).take n.toNat,[]⟩,0)
theorem mh {l:List AFile} {key:List UInt8} {F:AFile→AFile×Int} (h:¬ bF l=true):bj l key F=(default,3):=by unfold bj;rw [if_pos (by simpa using h)]
theorem kb {l:List AFile} {key:List UInt8} {F:AFile→AFile×Int} (h:bF l=true) (h2:¬ key∈l.map AFile.name):bj l key F=(default,7):=by unfold bj;rw [if_neg (by simp [h]),if_neg h2]
theorem ym {l:List AFile} {key:List UInt8} {F:AFile→AFile×Int} (h:bF l=true) (h2:key∈l.map AFile.name) (h3:¬ (F (l.getD (place (l.map AFile.name) key) default)).2=0) :
  bj l key F=(default,(F (l.getD (place (l.map AFile.name) key) default)).2):=by unfold bj;rw [if_neg (by simp [h]),if_pos h2,if_neg h3]
theorem gw {l:List AFile} {key:List UInt8} {F:AFile→AFile×Int} (h:bF l=true) (h2:key∈l.map AFile.name) (h3:(F (l.getD (place (l.map AFile.name) key) default)).2=0) :
  bj l key F=(⟨l.set (place (l.map AFile.name) key) (F (l.getD (place (l.map AFile.name) key) default)).1⟩,0):=by unfold bj;rw [if_neg (by simp [h]),if_pos h2,if_pos h3]
theorem fQ {l:List AFile} {key:List UInt8} (h:bF l=true) (h2:key∈l.map AFile.name):place (l.map AFile.name) key<l.length:=by
 have:=(ao (dq h) h2).1;simpa using this
theorem FZ (d:ADisk) (key:List UInt8) (h:d.files.length*48≤140737488351232) (hw:∀ f,f∈d.files→f.wf):ab Tryz.prog [] 229 [d.av,S key] (ret (.tup [(bj d.files key mF).1.av,I (bj d.files key mF).2])):=by
 obtain ⟨w0,w1,w2,w3⟩:=g0 hw (place (d.files.map AFile.name) key)
 by_cases hg:bF d.files=true
 ·by_cases hm:key∈d.files.map AFile.name
  ·have hpl:=fQ hg hm
   rw [gw hg hm rfl]
   refine zJ Tryz.func229 Tryz.ntmps229 Tryz.results229 ?_;simp only [go_sem]
   (refine zW qw (zc ((good_d_c d h hw).re (by rw [hg])) (z4 ((find_c d key h hg).re (by rw [decide_eq_true hm])) (dw d h) (ic Tryz.func141) (ic Tryz.func258))) (zx @AFile.rgetD (zx @bI (zx @AFile.rset (zx @aO @List.set_set.{0})))) (z1 ?_)<;>(repeat with_reducible intro hc))
   (refine zE2 @du ?_;(try simp (disch:=omega) only [go_sem,aa,du,I,B,S,zj]))
   exact .inl rfl
  ·rw [kb hg hm]
   refine zJ Tryz.func229 Tryz.ntmps229 Tryz.results229 ?_;simp only [go_sem]
   (refine zW qw (z4 ((good_d_c d h hw).re (by rw [hg])) ((find_c d key h hg).re (by rw [decide_eq_false hm])) (ic Tryz.func141) (ic Tryz.func258)) trivial (z1 ?_)<;>(repeat with_reducible intro hc))
   exact zEe dfl
 ·rw [mh hg]
  rw [Bool.not_eq_true] at hg
  refine zJ Tryz.func229 Tryz.ntmps229 Tryz.results229 ?_;simp only [go_sem]
  (refine zW qw (z3 ((good_d_c d h hw).re (by rw [hg])) (ic Tryz.func141) (ic Tryz.func258)) trivial (z1 ?_)<;>(repeat with_reducible intro hc))
  exact zEe dfl
theorem JP (d:ADisk) (key:List UInt8) (n:Int) (h:d.files.length*48≤140737488351232) (hw:∀ f,f∈d.files→f.wf):ab Tryz.prog [] 85 [d.av,S key,I n] (ret (.tup [(bj d.files key (lP n)).1.av,I (bj d.files key (lP n)).2])):=by
 obtain ⟨w0,w1,w2,w3⟩:=g0 hw (place (d.files.map AFile.name) key)
 by_cases hg:bF d.files=true
 ·by_cases hm:key∈d.files.map AFile.name
  ·have hpl:=fQ hg hm
   by_cases hn:n<0∨((d.files.getD (place (d.files.map AFile.name) key) default).safe.length:Int)+(d.files.getD (place (d.files.map AFile.name) key) default).tail.length<n
   ·have e:lP n (d.files.getD (place (d.files.map AFile.name) key) default)=(default,3):=by unfold lP;rw [if_pos hn]
    rw [ym hg hm (by rw [e];decide),e]
    refine zJ Tryz.func85 Tryz.ntmps85 Tryz.results85 ?_;simp only [go_sem]
    (refine zW qw (zc ((good_d_c d h hw).re (by rw [hg])) (z4 ((find_c d key h hg).re (by rw [decide_eq_true hm])) (dw d h) (ic Tryz.func141) (ic Tryz.func142))) (zx @AFile.rgetD (zx @bI (zx @AFile.rset (zx @aO @List.set_set.{0})))) (z1 ?_)<;>(repeat with_reducible intro hc))
    all_goals first|omega|skip
    all_goals exact zEe dfl
   ·have e:lP n (d.files.getD (place (d.files.map AFile.name) key) default)=(⟨(d.files.getD (place (d.files.map AFile.name) key) default).name,((d.files.getD (place (d.files.map AFile.name) key) default).safe++(d.files.getD (place (d.files.map AFile.name) key) default).tail).take n.toNat,[]⟩,0):=by unfold lP;rw [if_neg hn]
    rw [gw hg hm (by rw [e]),e]
    refine zJ Tryz.func85 Tryz.ntmps85 Tryz.results85 ?_;simp only [go_sem]
    (refine zW qw (zc ((good_d_c d h hw).re (by rw [hg])) (z4 ((find_c d key h hg).re (by rw [decide_eq_true hm])) (dw d h) (ic Tryz.func141) (ic Tryz.func142))) (zx @AFile.rgetD (zx @bI (zx @AFile.rset (zx @aO @List.set_set.{0})))) (z1 ?_)<;>(repeat with_reducible intro hc))
    all_goals first|omega|skip
    (refine zE2 @du ?_;(try simp (disch:=omega) only [go_sem,aa,du,I,B,S,zj]))
    exact .inl rfl
  ·rw [kb hg hm]
   refine zJ Tryz.func85 Tryz.ntmps85 Tryz.results85 ?_;simp only [go_sem]
   (refine zW qw (z4 ((good_d_c d h hw).re (by rw [hg])) ((find_c d key h hg).re (by rw [decide_eq_false hm])) (ic Tryz.func141) (ic Tryz.func142)) trivial (z1 ?_)<;>(repeat with_reducible intro hc))
   exact zEe dfl
 ·rw [mh hg]
  rw [Bool.not_eq_true] at hg
  refine zJ Tryz.func85 Tryz.ntmps85 Tryz.results85 ?_;simp only [go_sem]
  (refine zW qw (z3 ((good_d_c d h hw).re (by rw [hg])) (ic Tryz.func141) (ic Tryz.func142)) trivial (z1 ?_)<;>(repeat with_reducible intro hc))
  exact zEe dfl
def bv (l:List AFile) (key:List UInt8):ADisk×Int:=
 if bF l=false then (default,3) else if key∈l.map AFile.name then (⟨l.eraseIdx (place (l.map AFile.name) key)⟩,0) else (default,7)
theorem EB (d:ADisk) (key:List UInt8) (h:d.files.length*48≤140737488351232) (hw:∀ f,f∈d.files→f.wf):ab Tryz.prog [] 237 [d.av,S key] (ret (.tup [(bv d.files key).1.av,I (bv d.files key).2])):=by
 by_cases hg:bF d.files=true
 ·by_cases hm:key∈d.files.map AFile.name
  ·have hpl:=fQ hg hm
   unfold bv
   rw [if_neg (by simp [hg]),if_pos hm]
   refine zJ Tryz.func237 Tryz.ntmps237 Tryz.results237 ?_;simp only [go_sem]
   (repeat' first
|(with_reducible refine AR.f ?_)
|refine ap (by decide) ?_
|(with_reducible refine AWP.cond rfl ?_ ?_<;>intro hc<;>(try simp only [hcs,beq_iff_eq,ge_iff_le,gt_iff_lt] at hc))
|((first|((first|(with_reducible first|refine zR ?_|refine zQ (by decide +kernel) ?_|refine zD (by decide +kernel) ?_|refine zE (by decide +kernel) ?_|refine zG (by decide +kernel) ?_));intro K hK)|((first|refine zA ((good_d_c d h hw).re (by rw [hg])) ?_ ?_ ?_ ?_ ?_|refine zA ((find_c d key h hg).re (by rw [decide_eq_true hm])) ?_ ?_ ?_ ?_ ?_);(focus exact rfl);(focus exact rfl);iterate 2 (focus ((try simp (disch:=omega) only [go_sem,aa,dj])<;>(try omega)<;>fail)))|((first|refine zN ((find_c d key h hg).re (by rw [decide_eq_true hm])) rfl ?_ ?_|refine zN (dw d h) rfl ?_ ?_|refine zX ((good_d_c d h hw).re (by rw [hg])) rfl ?_ ?_|refine zY (dw d h) ?_ ?_);(focus ((try simp (disch:=omega) only [go_sem,aa,dj])<;>(try omega)<;>fail)))|((first|refine zX ((find_c d key h hg).re (by rw [decide_eq_true hm])) rfl ?_ ?_|refine zY ((find_c d key h hg).re (by rw [decide_eq_true hm])) ?_ ?_);(focus ((try simp (disch:=omega) only [go_sem,aa,dj])<;>(try omega)<;>fail)))|(refine acallH_own (BB (d.files.map AFile.row) (place (d.files.map AFile.name) key) (by simpa using hpl) (by simpa using h)) ?_ ?_ ?_;(focus ((try simp (disch:=omega) only [inj,List.cons.injEq,and_self,List.nodup_cons,List.not_mem_nil,List.mem_cons,not_false_eq_true,List.nodup_nil,go_sem,aa,dj])<;>(try omega)<;>fail));(focus ((try simp (disch:=omega) only [inj,List.cons.injEq,and_self,List.nodup_cons,List.not_mem_nil,List.mem_cons,not_false_eq_true,List.nodup_nil,go_sem,aa,dj])<;>(try omega)<;>(try decide)<;>fail)))|((first|(with_reducible refine aunder_i ?_ ?_<;>intro hg)|with_reducible intro hg)<;>(first|(exfalso;simp at hg;done)|(have hg':=hg;(try simp only [hcs,beq_iff_eq,ge_iff_le,gt_iff_lt] at hg');(try simp only [hg])))))<;>(try simp (disch:=omega) only [go_sem,aa,dj])<;>(repeat' with_reducible refine And.intro ?_ ?_)<;>(try (with_reducible refine hK _ ?_;clear hK K)))
|omega)
   exact zEe (zx @qj @dH)
  ·unfold bv
   rw [if_neg (by simp [hg]),if_neg hm]
   refine zJ Tryz.func237 Tryz.ntmps237 Tryz.results237 ?_;simp only [go_sem]
   (refine zW qw (z2 ((good_d_c d h hw).re (by rw [hg])) ((find_c d key h hg).re (by rw [decide_eq_false hm]))) trivial (z1 ?_)<;>(repeat with_reducible intro hc))
   exact zEe dfl
 ·unfold bv
  rw [if_pos (by simpa using hg)]
  rw [Bool.not_eq_true] at hg
  refine zJ Tryz.func237 Tryz.ntmps237 Tryz.results237 ?_;simp only [go_sem]
  (refine zW qw (z1 ((good_d_c d h hw).re (by rw [hg]))) trivial (z1 ?_)<;>(repeat with_reducible intro hc))
  exact zEe dfl
def crashF (keep:Int) (f:AFile):AFile:=⟨f.name,f.safe++f.tail.take keep.toNat,[]⟩
def fy (l:List AFile) (keep:Int):ADisk×Int:=if bF l=false∨keep<0 then (default,3) else (⟨l.map (crashF keep)⟩,0)
def crashed (l:List AFile) (keep:Int) (k:Nat):List AFile:=(l.take k).map (crashF keep)++l.drop k
theorem pn (l:List AFile) (keep:Int) (k:Nat):(crashed l keep k).length=l.length:=by unfold crashed;simp;omega
theorem wG (l:List AFile) (keep:Int) (k:Nat) (h:k<l.length):(crashed l keep k).getD k default=l.getD k default:=by
 unfold crashed
 have e:((l.take k).map (crashF keep)).length=k:=by simp;omega
 rw [List.getD_eq_getElem?_getD,List.getElem?_append_right (by omega),e,List.getElem?_drop,List.getD_eq_getElem?_getD,Nat.sub_self,Nat.add_zero]
theorem vk (l:List AFile) (keep:Int) (k:Nat) (z:List DV) (h:k<l.length):((crashed l keep k).map AFile.row).getD k z=(l.getD k default).row:=by
 rw [AFile.rgetD _ _ _ (by rw [pn];exact h),wG _ _ _ h]
theorem wR (l:List AFile) (keep:Int) (k:Nat) (h:k<l.length):(crashed l keep k).set k (crashF keep (l.getD k default))=crashed l keep (k+1):=by
 unfold crashed
 have e:((l.take k).map (crashF keep)).length=k:=by simp;omega
 rw [List.set_append_right _ _ (by omega),e,Nat.sub_self,cD l k h,List.map_append,List.append_assoc]
 congr 1
 rw [List.drop_eq_getElem_cons h]
 rfl
theorem EY (l:List UInt8) (keep:Int) (h:0≤keep):l.take (if (l.length:Int)<keep then (l.length:Int) else keep).toNat=l.take keep.toNat:=by
 split
 ·rw [Int.toNat_natCast,List.take_length,List.take_of_length_le (by omega)]
 ·rfl
theorem Jb (d:ADisk) (keep:Int) (h:d.files.length*48≤140737488351232) (hw:∀ f,f∈d.files→f.wf):ab Tryz.prog [] 188 [d.av,I keep] (ret (.tup [(fy d.files keep).1.av,I (fy d.files keep).2])):=by
 refine zJ Tryz.func188 Tryz.ntmps188 Tryz.results188 ?_;simp only [go_sem]
 (refine zW qw (z2 (good_d_c d h hw) (dw d h)) trivial (z2 ?_ ?_)<;>(repeat with_reducible intro hc))
 ·unfold fy;rw [if_pos hc];exact zEe dfl
 obtain ⟨hg,hk0⟩:=hc
 refine AWP.loopB (ι:=Nat) (fun k=>k≤d.files.length) (fun k=>d.files.length-k) [1,2,4,20] (fun k=>[(21,I k)]) (fun k=>[.cells [.osl 2 3 0 d.files.length],.cells [.d (.sc (.slice none 0 0))],.rows 3 ((crashed d.files keep k).map AFile.row)]) 0 ?_ ?_ ?_
 ·omega
 ·simp only [go_sem];exact zSm @crashed.eq_1
 intro k hk
 obtain ⟨w0,w1,w2,w3⟩:=g0 hw k
 have hcl:=pn d.files keep k
 simp only [go_sem]
 (refine zW qw zn (zx @vk (zx @AFile.rset (zx @aO @List.set_set.{0}))) (z2 ?_ ?_)<;>(repeat with_reducible intro hc))
 ·refine ⟨k+1,by omega,by omega,?_⟩
  have e:(⟨(d.files.getD k default).name,(d.files.getD k default).safe++List.take ((if ((d.files.getD k default).tail.length:Int)<keep then ((d.files.getD k default).tail.length:Int) else keep).toNat-0) (d.files.getD k default).tail,[]⟩:AFile)=crashF keep (d.files.getD k default):=by
   unfold crashF;rw [Nat.sub_zero,EY _ _ hk0]
  rw [e,wR _ _ _ hc]
  exact zFr [0,1,2] trivial
 ·have e:k=d.files.length:=by omega
  subst e
  have e1:crashed d.files keep d.files.length=d.files.map (crashF keep):=by unfold crashed;simp
  rw [e1]
  unfold fy;rw [if_neg (by simp [hg];omega)]
  exact zEe @List.map_map.{0,0,0}
theorem tf {l:List AFile} {key:List UInt8} {F:AFile→AFile×Int} (h:l.length*48≤140737488351232):(bj l key F).1.files.length*48≤140737488351232:=by
 unfold bj;split
 ·decide
 ·split
  ·split
   ·simpa using h
   ·show ([]:List AFile).length*48≤_;decide
  ·decide
theorem BR {l:List AFile} {key:List UInt8} (h:l.length*48≤140737488351232):(bv l key).1.files.length*48≤140737488351232:=by
 unfold bv;split
 ·decide
 ·split
  ·rename_i hg hm;simp only;rw [dH _ _ (fQ (by simpa using hg) hm)];omega
  ·decide
def aP (l:List AFile) (key s:List UInt8):ADisk×Int:=
 if bF l=false then (default,3) else if a8 key=false then (default,2) else
  if key∈l.map AFile.name then
   (if 1048576<(l.getD (place (l.map AFile.name) key) default).safe.length+(l.getD (place (l.map AFile.name) key) default).tail.length+s.length then (default,1)
    else (⟨l.set (place (l.map AFile.name) key) ⟨(l.getD (place (l.map AFile.name) key) default).name,(l.getD (place (l.map AFile.name) key) default).safe,(l.getD (place (l.map AFile.name) key) default).tail++s⟩⟩,0))
  else if 16≤l.length then (default,6) else if 1048576<s.length then (default,1) else (⟨l.insertIdx (place (l.map AFile.name) key) ⟨key,[],s⟩⟩,0)
theorem qk {l:List AFile} (h:bF l=true):l.length≤16:=by unfold bF at h;rw [decide_eq_true_eq] at h;exact h.1
theorem iZ {l:List AFile} {key:List UInt8}:place (l.map AFile.name) key≤l.length:=by have:=fI (l.map AFile.name) key;simpa using this
theorem vo (d:ADisk) (key s:List UInt8) (hs:okS s) (hk:okS key) (h:d.files.length*48≤140737488351232) (hw:∀ f,f∈d.files→f.wf):ab Tryz.prog [] 83 [d.av,S key,S s] (ret (.tup [(aP d.files key s).1.av,I (aP d.files key s).2])):=by
 obtain ⟨w0,w1,w2,w3⟩:=g0 hw (place (d.files.map AFile.name) key)
 unfold okS at hs
 by_cases hg:bF d.files=true
 ·have hl16:=qk hg
  by_cases hn:a8 key=true
  ·have hpl':=iZ (l:=d.files) (key:=key)
   by_cases hm:key∈d.files.map AFile.name
   ·have hpl:=fQ hg hm
    have e:aP d.files key s=(if 1048576<(d.files.getD (place (d.files.map AFile.name) key) default).safe.length+(d.files.getD (place (d.files.map AFile.name) key) default).tail.length+s.length then (default,1)
     else (⟨d.files.set (place (d.files.map AFile.name) key) ⟨(d.files.getD (place (d.files.map AFile.name) key) default).name,(d.files.getD (place (d.files.map AFile.name) key) default).safe,(d.files.getD (place (d.files.map AFile.name) key) default).tail++s⟩⟩,0)):=by
     unfold aP;rw [if_neg (by simp [hg]),if_neg (by simp [hn]),if_pos hm]
    rw [e]
    refine zJ Tryz.func83 Tryz.ntmps83 Tryz.results83 ?_;simp only [go_sem]
    (refine zW qw (z4 ((good_d_c d h hw).re (by rw [hg])) ((ga key hk).re (by rw [hn])) ((find_c d key h hg).re (by rw [decide_eq_true hm])) (dw d h)) (zx @AFile.rgetD (zx @bI (zx @AFile.rset (zx @aO @List.set_set.{0})))) (z2 ?_ ?_)<;>(repeat with_reducible intro hc))
    ·rw [if_pos (by omega)];exact zEe dfl
    ·rw [if_neg (by omega)];exact zEe @du
   ·by_cases hf:16≤d.files.length
    ·have e:aP d.files key s=(default,6):=by unfold aP;rw [if_neg (by simp [hg]),if_neg (by simp [hn]),if_neg hm,if_pos hf]
     rw [e]
     refine zJ Tryz.func83 Tryz.ntmps83 Tryz.results83 ?_;simp only [go_sem]
     (refine zW qw (z4 ((good_d_c d h hw).re (by rw [hg])) ((ga key hk).re (by rw [hn])) ((find_c d key h hg).re (by rw [decide_eq_false hm])) (dw d h)) trivial (z1 ?_)<;>(repeat with_reducible intro hc))
     exact zEe dfl
    ·have e:aP d.files key s=(if 1048576<s.length then (default,1) else (⟨d.files.insertIdx (place (d.files.map AFile.name) key) ⟨key,[],s⟩⟩,0)):=by
      unfold aP;rw [if_neg (by simp [hg]),if_neg (by simp [hn]),if_neg hm,if_neg hf]
     rw [e]
     have hil:=eI d.files (place (d.files.map AFile.name) key) (⟨key,[],[]⟩:AFile) hpl'
     have hil2:=eI d.files (place (d.files.map AFile.name) key) (⟨key,[],s⟩:AFile) hpl'
     refine zJ Tryz.func83 Tryz.ntmps83 Tryz.results83 ?_;simp only [go_sem]
     (refine zW qw (zc ((good_d_c d h hw).re (by rw [hg])) (z4 ((ga key hk).re (by rw [hn])) ((find_c d key h hg).re (by rw [decide_eq_false hm])) (dw d h) (ow (BL (d.files.map AFile.row) [.str key,.str [],.str []] (place (d.files.map AFile.name) key) (by simpa using hpl') (by simp only [List.length_map];omega))))) (zx @AFile.rins (zx @xM (zx @AFile.rset (zx @IL (zx @List.length_nil.{0} @List.nil_append.{0}))))) (z2 ?_ ?_)<;>(repeat with_reducible intro hc))
     ·rw [if_pos (by omega)];exact zEe dfl
     ·rw [if_neg (by omega)];exact zEe @vv
  ·have e:aP d.files key s=(default,2):=by unfold aP;rw [if_neg (by simp [hg]),if_pos (by simpa using hn)]
   rw [e]
   rw [Bool.not_eq_true] at hn
   refine zJ Tryz.func83 Tryz.ntmps83 Tryz.results83 ?_;simp only [go_sem]
   (refine zW qw (z2 ((good_d_c d h hw).re (by rw [hg])) ((ga key hk).re (by rw [hn]))) trivial (z1 ?_)<;>(repeat with_reducible intro hc))
   exact zEe dfl
 ·have e:aP d.files key s=(default,3):=by unfold aP;rw [if_pos (by simpa using hg)]
  rw [e]
  rw [Bool.not_eq_true] at hg
  refine zJ Tryz.func83 Tryz.ntmps83 Tryz.results83 ?_;simp only [go_sem]
  (refine zW qw (z1 ((good_d_c d h hw).re (by rw [hg]))) trivial (z1 ?_)<;>(repeat with_reducible intro hc))
  exact zEe dfl
theorem iA {l:List AFile} {key s:List UInt8}:(aP l key s).1.files.length*48≤140737488351232:=by
 unfold aP;split
 ·decide
 ·rename_i hg
  have hl:=qk (l:=l) (by simpa using hg)
  split
  ·decide
  ·split
   ·split
    ·decide
    ·show (l.set _ _).length*48≤_;rw [List.length_set];omega
   ·split
    ·decide
    ·split
     ·decide
     ·show (l.insertIdx _ _).length*48≤_;rw [eI _ _ _ iZ];omega
def ly (t:ATxn):Bool:=decide (bR t.zxid)&&(decide (1≤t.session∧t.session≤2147483647)&&(decide (0≤t.version∧t.version≤2147483647)&&decide (0≤t.owner∧t.owner≤2147483647)))
def wo (t:ATxn):Bool:=
 if t.op≤2 then !decide (t.path=[])||(!decide (t.data=[])||(!decide (t.version=0)||!decide (t.owner=0)))
 else if t.op=3 then !bw t.path||(decide (t.path=[47])||!decide (t.version=0))
 else if t.op=4 then !bw t.path||(decide (t.path=[47])||(!decide (t.data=[])||(!decide (t.version=0)||!decide (t.owner=0))))
 else !bw t.path||!decide (t.owner=0)
def aN (t:ATxn):Int:=if t.op<1∨5<t.op then 4 else if ly t=false then 3 else if 256<t.data.length then 1 else if wo t=true then 2 else 0
theorem wy {t:ATxn} (h:t.op<1∨5<t.op):aN t=4:=by unfold aN;rw [if_pos h]
theorem ol {t:ATxn} (h:1≤t.op∧t.op≤5) (h2:¬ ly t=true):aN t=3:=by unfold aN;rw [if_neg (by omega),if_pos (eq_false_of_ne_true h2)]
theorem qI {t:ATxn} (h:1≤t.op∧t.op≤5) (h2:ly t=true) (h3:256<t.data.length):aN t=1:=by unfold aN;rw [if_neg (by omega),if_neg (by rw [h2];decide),if_pos h3]
theorem xd {t:ATxn} (h:1≤t.op∧t.op≤5) (h2:ly t=true) (h3:t.data.length≤256):aN t=if wo t=true then 2 else 0:=by unfold aN;rw [if_neg (by omega),if_neg (by rw [h2];decide),if_neg (by omega)]
theorem kY (t:ATxn):ly t=true↔bR t.zxid∧(1≤t.session∧t.session≤2147483647)∧(0≤t.version∧t.version≤2147483647)∧(0≤t.owner∧t.owner≤2147483647):=by
 unfold ly;simp only [Bool.and_eq_true,decide_eq_true_eq]
theorem Jj {t:ATxn} (h:1≤t.op∧t.op≤5):wo t=true↔((t.op≤2∧(((¬t.path=[]∨¬t.data=[])∨¬t.version=0)∨¬t.owner=0))∨(3≤t.op∧(bw t.path=false∨t.path=[47]∧¬t.op=5))∨((t.op=4∧((¬t.data=[]∨¬t.version=0)∨¬t.owner=0)∨t.op=3∧¬t.version=0)∨t.op=5∧¬t.owner=0)):=by
 have hop:t.op=1∨t.op=2∨t.op=3∨t.op=4∨t.op=5:=by omega
 rcases hop with e|e|e|e|e<;>simp [wo,e,or_assoc]
theorem pM (t:ATxn) (hp:okS t.path) (hd:okS t.data):ab Tryz.prog [] 119 [t.av] (ret (I (aN t))):=by
 unfold okS at hd
 refine zJ Tryz.func119 Tryz.ntmps119 Tryz.results119 ?_;simp only [go_sem]
 (repeat' first
|(with_reducible refine AR.f ?_)
|refine ap (by decide) ?_
|(with_reducible refine AWP.cond rfl ?_ ?_<;>intro hc<;>(try simp only [hcs,beq_iff_eq,ge_iff_le,gt_iff_lt] at hc))
|((first|((first|(with_reducible first|refine zR ?_|refine zQ (by decide +kernel) ?_|refine zD (by decide +kernel) ?_|refine zE (by decide +kernel) ?_|refine zG (by decide +kernel) ?_));intro K hK)|((first|refine zA (good_c t.path hp) ?_ ?_ ?_ ?_ ?_);(focus exact rfl);(focus exact rfl);iterate 2 (focus ((try simp (disch:=omega) only [go_sem,aa])<;>(try omega)<;>fail)))|((first|refine acallH_sc (zgood_c _) rfl rfl ?_ ?_ ?_|refine acallQ_sc (zgood_c _) rfl rfl ?_ ?_ ?_);iterate 2 (focus ((try simp (disch:=omega) only [go_sem,aa])<;>(try omega)<;>fail)))|((first|refine zX (zgood_c _) rfl ?_ ?_|refine zX (good_c t.path hp) rfl ?_ ?_);(focus ((try simp (disch:=omega) only [go_sem,aa])<;>(try omega)<;>fail)))|((first|(with_reducible refine aunder_i ?_ ?_<;>intro hg)|with_reducible intro hg)<;>(first|(exfalso;simp at hg;done)|(have hg':=hg;(try simp only [hcs,beq_iff_eq,ge_iff_le,gt_iff_lt] at hg');(try simp only [hg])))))<;>(try simp (disch:=omega) only [go_sem,aa])<;>(repeat' with_reducible refine And.intro ?_ ?_)<;>(try (with_reducible refine hK _ ?_;clear hK K)))
|omega)
 ·rw [wy hc];(refine zF rfl ?_ ?_ ?_ ?_;(iterate 3 (focus ((try simp (disch:=omega) only [go_sem,aa])<;>(try omega)<;>fail)));(try simp (disch:=omega) only [go_sem,aa,I,B,S,zj]))
 all_goals (have hop:1≤t.op∧t.op≤5:=by assumption)
 ·rw [ol hop]
  ·(refine zF rfl ?_ ?_ ?_ ?_;(iterate 3 (focus ((try simp (disch:=omega) only [go_sem,aa])<;>(try omega)<;>fail)));(try simp (disch:=omega) only [go_sem,aa,I,B,S,zj]))
  rw [kY];rintro ⟨h1,h2⟩
  rcases hc with (((((c|c)|c)|c)|c)|c)|c
  ·exact c h1
  all_goals omega
 all_goals (have hn:(((((bR t.zxid∧1≤t.session)∧t.session≤2147483647)∧0≤t.version)∧t.version≤2147483647)∧0≤t.owner)∧t.owner≤2147483647:=by assumption)
 all_goals (have hnb:ly t=true:=(kY t).2 ⟨hn.1.1.1.1.1.1,by omega,by omega,by omega⟩)
 ·rw [qI hop hnb (by omega)];(refine zF rfl ?_ ?_ ?_ ?_;(iterate 3 (focus ((try simp (disch:=omega) only [go_sem,aa])<;>(try omega)<;>fail)));(try simp (disch:=omega) only [go_sem,aa,I,B,S,zj]))
 all_goals rw [xd hop hnb (by omega)]
 ·rw [if_pos ((Jj hop).2 (.inl hc))];(refine zF rfl ?_ ?_ ?_ ?_;(iterate 3 (focus ((try simp (disch:=omega) only [go_sem,aa])<;>(try omega)<;>fail)));(try simp (disch:=omega) only [go_sem,aa,I,B,S,zj]))
 ·rw [if_pos ((Jj hop).2 (.inr (.inl ⟨by simpa using hg,hc⟩)))];(refine zF rfl ?_ ?_ ?_ ?_;(iterate 3 (focus ((try simp (disch:=omega) only [go_sem,aa])<;>(try omega)<;>fail)));(try simp (disch:=omega) only [go_sem,aa,I,B,S,zj]))
 ·rw [if_pos ((Jj hop).2 (.inr (.inr hc)))];(refine zF rfl ?_ ?_ ?_ ?_;(iterate 3 (focus ((try simp (disch:=omega) only [go_sem,aa])<;>(try omega)<;>fail)));(try simp (disch:=omega) only [go_sem,aa,I,B,S,zj]))
 all_goals (rw [if_neg (fun hb=>by
  have hb:=(Jj hop).1 hb
  have hop:t.op=1∨t.op=2∨t.op=3∨t.op=4∨t.op=5:=by omega
  rcases hop with e|e|e|e|e<;>simp_all)];(refine zF rfl ?_ ?_ ?_ ?_;(iterate 3 (focus ((try simp (disch:=omega) only [go_sem,aa])<;>(try omega)<;>fail)));(try simp (disch:=omega) only [go_sem,aa,I,B,S,zj])))
def t0:ATxn:=⟨0,0,0,[],[],0,0⟩
def rE (c:Nat):Nat:=(c/2) ^^^ (if c%2=1 then 3988292384 else 0)
def ku:Nat→Nat→Nat
 |0,c=>c
 |k+1,c=>rE (ku k c)
def vU (c:Nat) (b:UInt8):Nat:=ku 8 (c ^^^ b.toNat)
def rv (s:List UInt8):Nat:=s.foldl vU 4294967295
def mR (s:List UInt8):Nat:=4294967295-rv s
theorem HG {c:Nat} (h:c<4294967296):rE c<4294967296:=by
 unfold rE
 exact Nat.xor_lt_two_pow (n:=32) (by omega) (by split<;>decide)
theorem stepsN_lt {c:Nat} (h:c<4294967296):∀ k,ku k c<4294967296
 |0=>h
 |k+1=>HG (stepsN_lt h k)
theorem DP {c:Nat} (b:UInt8) (h:c<4294967296):vU c b<4294967296:=
 stepsN_lt (Nat.xor_lt_two_pow (n:=32) h (Nat.lt_trans b.toNat_lt (by decide))) 8
theorem CV (s:List UInt8) (k:Nat) (h:k<s.length):rv (s.take (k+1))=vU (rv (s.take k)) (s.getD k 0):=by
 unfold rv
 have:s.take (k+1)=s.take k++[s.getD k 0]:=cD s k h
 rw [this,List.foldl_append];rfl
theorem IB (s:List UInt8):rv s<4294967296:=by
 unfold rv
 have:∀ (l:List UInt8) (c:Nat),c<4294967296→l.foldl vU c<4294967296:=by
  intro l
  induction l with
  |nil=>intro c h;exact h
  |cons b l ih=>intro c h;exact ih _ (DP b h)
 exact this s _ (by decide)
theorem and1 (c:Nat) (h:c<4294967296):bits .and .u32 (c:Int) 1=((c%2:Nat):Int):=by
 have:=u32_and_nat c 1 h (by decide)
 rw [Nat.and_one_is_mod] at this;exact this
theorem Mn (c:Nat):(c:Int)/2=((c/2:Nat):Int):=by omega
theorem xorp (c:Nat) (h:c<4294967296):bits .xor .u32 (c:Int) 3988292384=((c ^^^ 3988292384:Nat):Int):=u32_xor_nat c _ h (by decide)
theorem Iq (b:UInt8):b.toNat<4294967296:=Nat.lt_trans b.toNat_lt (by decide)
theorem EG {c:Nat} (h:c%2=1):rE c=c/2 ^^^ 3988292384:=by unfold rE;rw [if_pos h]
theorem Bz {c:Nat} (h:¬ c%2=1):rE c=c/2:=by unfold rE;rw [if_neg h,Nat.xor_zero]
theorem IN:rv []=4294967295:=rfl
theorem y5 (b:UInt8):IntKind.u32.wrap (b.toNat:Int)=(b.toNat:Int):=by
 have:=b.toNat_lt
 rw [IntKind.wrap_u32'];omega
theorem Md (c:Nat) (h:c<4294967296):bits .xor .u32 (if IntKind.u32.signed=true then -1 else IntKind.u32.max) (c:Int)=((4294967295-c:Nat):Int):=by
 have e:(if IntKind.u32.signed=true then (-1:Int) else IntKind.u32.max)=((4294967295:Nat):Int):=by decide
 rw [e,u32_xor_nat _ _ (by decide) h]
 congr 1
 have:4294967295-c=2^32-(c+1):=by omega
 apply Nat.eq_of_testBit_eq
 intro i
 rw [Nat.testBit_xor,this,Nat.testBit_two_pow_sub_succ h,show 4294967295=2^32-1 from rfl,Nat.testBit_two_pow_sub_one]
 by_cases hi:i<32
 ·simp [hi]
 ·have:c.testBit i=false:=Nat.testBit_lt_two_pow (Nat.lt_of_lt_of_le h (Nat.pow_le_pow_right (by decide) (by omega):2^32≤2^i))
  simp [hi,this]
theorem KJ (n:Nat):(((n:Nat):Int)=1)=(n=1):=by rw [eq_iff_iff];omega
theorem JO (s:List UInt8) (h:okS s):ab Tryz.prog [] 204 [S s] (ret (I (mR s))):=by
 unfold okS at h
 refine zJ Tryz.func204 Tryz.ntmps204 Tryz.results204 ?_;simp only [go_sem]
 (refine zW qw zn trivial (z1 ?_)<;>(repeat with_reducible intro hc))
 refine AWP.loopS (ι:=Nat) (fun k=>k≤s.length) (fun k=>s.length-k) [0] (fun k=>[(3,.d (.int .u32 (rv (s.take k)))),(4,I k)]) 0 ?_ (by simp (disch:=omega) only [go_sem,aa,IN,Int.cast_ofNat_Int]) ?_
 ·omega
 intro k hk
 have hc0:=IB (s.take k)
 have hb:=Iq (s.getD k 0)
 have hx:rv (s.take k) ^^^ (s.getD k 0).toNat<4294967296:=Nat.xor_lt_two_pow (n:=32) hc0 hb
 simp only [go_sem]
 (refine zW qw zn (zx @u32_xor_nat @y5) (z2 ?_ ?_)<;>(repeat with_reducible intro hc))
 ·refine AWP.loopS (ι:=Nat) (fun j=>j≤8) (fun j=>8-j) [0,4] (fun j=>[(3,.d (.int .u32 (ku j (rv (s.take k) ^^^ (s.getD k 0).toNat)))),(18,I j)]) 0 ?_ (by simp (disch:=omega) only [go_sem,aa,ku]) ?_
  ·omega
  intro j hj
  have hs:=stepsN_lt hx j
  have hs2:ku j (rv (s.take k) ^^^ (s.getD k 0).toNat)/2<4294967296:=by omega
  simp only [go_sem]
  (refine zW qw zn (zx @and1 (zx @Mn (zx @xorp @KJ))) (z3 ?_ ?_ ?_)<;>(repeat with_reducible intro hc))
  ·refine ⟨j+1,by omega,by omega,?_⟩
   (refine aM.same ?_;simp (disch:=omega) only [go_sem,aa,Int.natCast_add,ku,EG hc])
  ·refine ⟨j+1,by omega,by omega,?_⟩
   (refine aM.same ?_;simp (disch:=omega) only [go_sem,aa,Int.natCast_add,ku,Bz hc])
  ·have e0:j=8:=by omega
   subst e0
   refine ⟨k+1,by omega,by omega,?_⟩
   exact zSm (zx @CV @vU.eq_1)
 ·have e0:k=s.length:=by omega
  subst e0
  rw [List.take_length] at *
  exact zEe (zx @Md @mR.eq_1)
def cl (l:List Nat):List AV:=l.map fun n:Nat=>AV.d (.int .i64 (n:Int))
theorem Kp (s:List UInt8):mR s≤4294967295:=Nat.sub_le _ _
structure Cur where
 t:List UInt8
 s:List UInt8
 bad:Bool
def bW (s:List UInt8) (b:Bool) (n:Nat):Cur:=if b=true∨s.length<n then ⟨[],s,true⟩ else ⟨s.take n,s.drop n,false⟩
theorem xj {s:List UInt8} {b:Bool} {n:Nat} (h:b=true∨s.length<n):bW s b n=⟨[],s,true⟩:=if_pos h
theorem dO {s:List UInt8} {n:Nat} (h:n≤s.length):bW s false n=⟨s.take n,s.drop n,false⟩:=if_neg (by simp;omega)
theorem qe (s:List UInt8) (b:Bool) (n:Nat) (hs:okS s) (ni:Int) (hi:ni=n):ab Tryz.prog [.cells [S s,B b]] 202 [.ptr 0 0,I ni] (cY (S (bW s b n).t) [.cells [S (bW s b n).s,B (bW s b n).bad]]):=by
 subst hi
 unfold okS at hs
 by_cases h:b=true∨s.length<n
 ·rw [xj h]
  refine zJ Tryz.func202 Tryz.ntmps202 Tryz.results202 ?_;simp only [go_sem]
  (refine zW qw zn trivial (z2 ?_ ?_)<;>(repeat with_reducible intro hc))
  ·(refine zO ?_ ?_;(focus ((try simp (disch:=omega) only [go_sem,aa])<;>fail));simp (disch:=omega) only [go_sem,aa];refine ag.of_simp ?_ (ag.same ⟨rfl,rfl⟩);refine zV [0] rfl rfl rfl rfl ?_ ?_<;>simp (disch:=omega) only [go_sem,aa,true_or,or_true])
  exfalso;rcases h with h|h
  ·rw [h] at hc;exact absurd hc.1 (by decide)
  ·omega
 ·rw [show b=false from by cases b<;>simp_all] at *
  rw [dO (by omega)]
  refine zJ Tryz.func202 Tryz.ntmps202 Tryz.results202 ?_;simp only [go_sem]
  have e:List.take (s.length-n) (List.drop n s)=List.drop n s:=List.take_of_length_le (by rw [List.length_drop];omega)
  (refine zW qw zn trivial (z1 ?_)<;>(repeat with_reducible intro hc))
  (refine zO ?_ ?_;(focus ((try simp (disch:=omega) only [go_sem,aa])<;>fail));simp (disch:=omega) only [go_sem,aa,Nat.sub_zero,e];refine ag.of_simp ?_ (ag.same ⟨rfl,rfl⟩);refine zV [0] rfl rfl rfl rfl ?_ ?_<;>simp (disch:=omega) only [go_sem,aa,true_or,or_true,Nat.sub_zero,e])
def lx (l:List UInt8):Int:=l.foldl (fun v x=>IntKind.i64.wrap (v*256+x.toNat)) 0
theorem fC (n:Int):IntKind.i64.wrap n=(n+9223372036854775808)%18446744073709551616-9223372036854775808:=by simp [IntKind.wrap,IntKind.bits,IntKind.signed];omega
theorem Ay (n:Int) (c:UInt8):bits .or .i64 (IntKind.i64.wrap (n*256)) (c.toNat:Int)=IntKind.i64.wrap (n*256+c.toNat):=by
 have hc:=c.toNat_lt
 show IntKind.i64.wrap ((BitVec.ofInt 64 (IntKind.i64.wrap (n*256)) ||| BitVec.ofInt 64 (c.toNat:Int)).toNat:Int)=_
 have e1:(BitVec.ofInt 64 (IntKind.i64.wrap (n*256))).toNat=((n*256)%18446744073709551616).toNat:=by
  rw [BitVec.toNat_ofInt,fC];congr 1;omega
 rw [BitVec.toNat_or,ofInt_u64 c.toNat (by omega),e1,nat_join 8 _ _ (by omega) (by omega),fC,fC]
 omega
theorem ot (t:List UInt8) (k:Nat) (h:k<t.length):lx (t.take (k+1))=IntKind.i64.wrap (lx (t.take k)*256+(t.getD k 0).toNat):=by
 unfold lx
 have:t.take (k+1)=t.take k++[t.getD k 0]:=cD t k h
 rw [this,List.foldl_append];rfl
theorem sM (b:UInt8):IntKind.i64.wrap (b.toNat:Int)=(b.toNat:Int):=by
 have:=b.toNat_lt
 rw [fC];omega
theorem xJ (s:List UInt8) (b:Bool) (n:Nat) (hs:okS s) (ni:Int) (hi:ni=n) (hn:n≤8):ab Tryz.prog [.cells [S s,B b]] 203 [.ptr 0 0,I ni] (cY (I (lx (bW s b n).t)) [.cells [S (bW s b n).s,B (bW s b n).bad]]):=by
 have hl:(bW s b n).t.length≤8:=by unfold bW;split<;>simp;omega
 generalize hk:bW s b n=k at hl
 refine zJ Tryz.func203 Tryz.ntmps203 Tryz.results203 ?_;simp only [go_sem]
 have ct:ab Tryz.prog [.cells [S s,B b]] 202 [.ptr 0 0,I ni] (cY (S k.t) [.cells [S k.s,B k.bad]]):=hk▸qe s b n hs ni hi
 (refine zW qw (z1 (ac [0] ct)) trivial (z1 ?_)<;>(repeat with_reducible intro hc))
 refine AWP.loopB (ι:=Nat) (fun j=>j≤k.t.length) (fun j=>k.t.length-j) [11,12] (fun j=>[(5,I (lx (k.t.take j))),(13,I j)]) (fun j=>[.cells [S k.s,B k.bad],.bytes k.t]) 0 ?_ ?_ ?_
 ·omega
 ·simp only [go_sem,lx,List.foldl_nil];exact zSm trivial
 intro j hj
 simp only [go_sem]
 (refine zW qw zn (zx @u8g (zx @Ay @sM)) (z2 ?_ ?_)<;>(repeat with_reducible intro hc))
 ·refine ⟨j+1,by omega,by omega,?_⟩
  rw [ot _ _ (by assumption)]
  exact zSm (zx @Ay (zx @sM @u8g))
 rw [show j=k.t.length from by omega,List.take_length]
 (refine zO ?_ ?_;(focus ((try simp (disch:=omega) only [go_sem,aa])<;>fail));simp (disch:=omega) only [go_sem,aa];refine ag.of_simp ?_ (ag.same ⟨rfl,rfl⟩);refine zV [0] rfl rfl rfl rfl ?_ ?_<;>simp (disch:=omega) only [go_sem,aa,true_or,or_true])
def numN (l:List UInt8):Nat:=l.foldl (fun v x=>v*256+x.toNat) 0
theorem tU (t:List UInt8) (k:Nat) (h:k<t.length):numN (t.take (k+1))=numN (t.take k)*256+(t.getD k 0).toNat:=by
 unfold numN
 have:t.take (k+1)=t.take k++[t.getD k 0]:=cD t k h
 rw [this,List.foldl_append];rfl
theorem nX (t:List UInt8):∀ k,k≤t.length→k≤7→numN (t.take k)<256^k∧lx (t.take k)=((numN (t.take k):Nat):Int)
 |0,_,_=>⟨by simp [numN],rfl⟩
 | k+1,h,h7=>by
   obtain ⟨h1,h2⟩:=nX t k (by omega) (by omega)
   have hb:=(t.getD k 0).toNat_lt
   have hp:256^k≤256^6:=Nat.pow_le_pow_right (by decide) (by omega)
   have hq:256^(k+1)=256^k*256:=Nat.pow_succ ..
   rw [tU t k (by omega),ot t k (by omega),h2,fC]
   omega
theorem H2 {t:List UInt8} {k:Nat} (h:t.length≤k) (h7:k≤7):numN t<256^k:=by
 have:=(nX t t.length (Nat.le_refl _) (by omega)).1
 rw [List.take_length] at this
 exact Nat.lt_of_lt_of_le this (Nat.pow_le_pow_right (by decide) h)
theorem ye {t:List UInt8} (h:t.length≤7):lx t=((numN t:Nat):Int):=by
 have:=(nX t t.length (Nat.le_refl _) h).2
 rwa [List.take_length] at this
theorem pR (b:UInt8):numN [b]=b.toNat:=by simp [numN]
theorem HB (l:List UInt8):okI (lx l):=by
 rcases List.eq_nil_or_concat l with rfl|⟨l,x,rfl⟩
 ·unfold lx okI;decide
 ·unfold lx okI
  rw [List.concat_eq_append,List.foldl_append]
  simp only [List.foldl_cons,List.foldl_nil]
  rw [fC];omega
def tz:ATxn:=⟨0,0,0,[],[],0,0⟩
def bP (b:List UInt8):Nat:=(b.getD 21 0).toNat
def bD (b:List UInt8):Nat:=numN ((b.drop (22+bP b)).take 2)
def eS (b:List UInt8):ATxn:=⟨lx (b.take 8),(b.getD 8 0).toNat,(numN ((b.drop 9).take 4):Nat),(b.drop 22).take (bP b),b.drop (24+bP b),(numN ((b.drop 13).take 4):Nat),(numN ((b.drop 17).take 4):Nat)⟩
def eu (b:List UInt8):Prop:=b.length=24+bP b+bD b
def sN (s:List UInt8):Nat:=numN ((s.drop 1).take 2)
def sB (s:List UInt8):List UInt8:=(s.drop 3).take (sN s)
instance (b:List UInt8):Decidable (eu b):=inferInstanceAs (Decidable (_=_))
def dA (s:List UInt8):Prop:=s.length<3∨s.getD 0 0≠84
def dV (s:List UInt8):Prop:=1024<sN s∨s.length<sN s+7
def gO (s:List UInt8):Prop:=numN ((s.drop (sN s+3)).take 4)≠mR (s.take (sN s+3))
instance (s:List UInt8):Decidable (dA s):=inferInstanceAs (Decidable (_∨_))
instance (s:List UInt8):Decidable (dV s):=inferInstanceAs (Decidable (_∨_))
instance (s:List UInt8):Decidable (gO s):=inferInstanceAs (Decidable (_≠_))
def cq (s:List UInt8):ATxn×Int×Int:=
 if dA s then (tz,0,2)
 else if dV s then (tz,0,2)
 else if gO s then (tz,0,5)
 else if ¬ eu (sB s) then (tz,0,2)
 else if aN (eS (sB s))≠0 then (tz,0,aN (eS (sB s)))
 else (eS (sB s),(sN s+7:Nat),0)
theorem qJ {s:List UInt8} (h:dA s):cq s=(tz,0,2):=by unfold cq;rw [if_pos h]
theorem vq {s:List UInt8} (h1:¬ dA s) (h:dV s):cq s=(tz,0,2):=by unfold cq;rw [if_neg h1,if_pos h]
theorem yL {s:List UInt8} (h1:¬ dA s) (h2:¬ dV s) (h:gO s):cq s=(tz,0,5):=by unfold cq;rw [if_neg h1,if_neg h2,if_pos h]
theorem Aq {s:List UInt8} (h1:¬ dA s) (h2:¬ dV s) (h3:¬ gO s) (h:¬ eu (sB s)):cq s=(tz,0,2):=by unfold cq;rw [if_neg h1,if_neg h2,if_neg h3,if_pos h]
theorem yT {s:List UInt8} (h1:¬ dA s) (h2:¬ dV s) (h3:¬ gO s) (h4:eu (sB s)) (h:aN (eS (sB s))≠0):cq s=(tz,0,aN (eS (sB s))):=by
 unfold cq;rw [if_neg h1,if_neg h2,if_neg h3,if_neg (fun h=>h h4),if_pos h]
theorem vu {s:List UInt8} (h1:¬ dA s) (h2:¬ dV s) (h3:¬ gO s) (h4:eu (sB s)) (h:aN (eS (sB s))=0):cq s=(eS (sB s),((sN s+7:Nat):Int),0):=by
 unfold cq;rw [if_neg h1,if_neg h2,if_neg h3,if_neg (fun h=>h h4),if_neg (fun h'=>h' h)]
theorem fP (s:List UInt8) (b:Bool) (n:Nat) (hs:okS s) (ni:Int) (hi:ni=n) (hn:n≤7):ab Tryz.prog [.cells [S s,B b]] 203 [.ptr 0 0,I ni] (cY (I (numN (bW s b n).t:Nat)) [.cells [S (bW s b n).s,B (bW s b n).bad]]):=by
 have hl:(bW s b n).t.length≤7:=by unfold bW;split<;>simp;omega
 rw [←ye hl];exact xJ s b n hs ni hi (by omega)
theorem GP (s:List UInt8) (b:Bool) (n:Nat):(bW s b n).s.length≤s.length∧(bW s b n).t.length≤s.length∧(bW s b n).t.length≤n:=by
 unfold bW;split<;>simp<;>omega
theorem Br {s:List UInt8} {b:Bool} {n:Nat} (h:(bW s b n).bad=false):b=false∧n≤s.length∧(bW s b n).t=s.take n∧(bW s b n).s=s.drop n:=by
 unfold bW at *
 split at h
 ·cases h
 ·rename_i hn
  rw [if_neg hn]
  exact ⟨by cases b<;>simp_all,by omega,rfl,rfl⟩
theorem IP {s:List UInt8} {n:Nat} (h:(bW s false n).bad=true):s.length<n:=by
 rcases Nat.lt_or_ge s.length n with h'|h'
 ·exact h'
 ·rw [dO h'] at h;cases h
structure Dec where
 k1:Cur
 k2:Cur
 k3:Cur
 k4:Cur
 j1:Cur
 j2:Cur
 j3:Cur
 j4:Cur
 j5:Cur
 j6:Cur
 j7:Cur
 j8:Cur
 j9:Cur
structure Reads (s:List UInt8) (d:Dec):Prop where
 k1:bW s false 1=d.k1
 k2:bW d.k1.s d.k1.bad 2=d.k2
 k3:bW d.k2.s d.k2.bad (numN d.k2.t)=d.k3
 k4:bW d.k3.s d.k3.bad 4=d.k4
 j1:bW d.k3.t false 8=d.j1
 j2:bW d.j1.s d.j1.bad 1=d.j2
 j3:bW d.j2.s d.j2.bad 4=d.j3
 j4:bW d.j3.s d.j3.bad 4=d.j4
 j5:bW d.j4.s d.j4.bad 4=d.j5
 j6:bW d.j5.s d.j5.bad 1=d.j6
 j7:bW d.j6.s d.j6.bad (numN d.j6.t)=d.j7
 j8:bW d.j7.s d.j7.bad 2=d.j8
 j9:bW d.j8.s d.j8.bad (numN d.j8.t)=d.j9
theorem reads (s:List UInt8):∃ d,Reads s d:=by
 let k1:=bW s false 1
 let k2:=bW k1.s k1.bad 2
 let k3:=bW k2.s k2.bad (numN k2.t)
 let k4:=bW k3.s k3.bad 4
 let j1:=bW k3.t false 8
 let j2:=bW j1.s j1.bad 1
 let j3:=bW j2.s j2.bad 4
 let j4:=bW j3.s j3.bad 4
 let j5:=bW j4.s j4.bad 4
 let j6:=bW j5.s j5.bad 1
 let j7:=bW j6.s j6.bad (numN j6.t)
 let j8:=bW j7.s j7.bad 2
 let j9:=bW j8.s j8.bad (numN j8.t)
 exact ⟨⟨k1,k2,k3,k4,j1,j2,j3,j4,j5,j6,j7,j8,j9⟩,⟨rfl,rfl,rfl,rfl,rfl,rfl,rfl,rfl,rfl,rfl,rfl,rfl,rfl⟩⟩
theorem gd {s:List UInt8} {b:Bool} {n:Nat} {k:Cur} (e:bW s b n=k) (h:k.bad=false):b=false∧n≤s.length∧k.t=s.take n∧k.s=s.drop n:=by
 subst e;exact Br h
theorem no {s:List UInt8} {n:Nat} {k:Cur} (e:bW s false n=k) (h:k.bad=true):s.length<n:=by subst e;exact IP h
theorem ln {s:List UInt8} {b:Bool} {n m:Nat} {k:Cur} (e:bW s b n=k) (h:s.length≤m):k.s.length≤m∧k.t.length≤m∧k.t.length≤n:=by
 subst e;have:=GP s b n;omega
def sb (d:Dec):ATxn:=⟨lx d.j1.t,(numN d.j2.t:Nat),(numN d.j3.t:Nat),d.j7.t,d.j9.t,(numN d.j4.t:Nat),(numN d.j5.t:Nat)⟩
theorem Gq {s:List UInt8} {d:Dec} (r:Reads s d) (h:d.k1.t≠[84]):dA s:=by
 unfold dA
 rcases Nat.lt_or_ge s.length 1 with h0|h0
 ·left;omega
 right;intro e;apply h
 have:=r.k1
 rw [dO h0] at this
 rw [←this]
 match s,h0,e with
 |x::s,_,e=>simp at e;simp [e]
theorem Bh {s:List UInt8} {d:Dec} (r:Reads s d) (h:d.k1.t=[84]):d.k1.bad=false∧d.k1.s=s.drop 1∧1≤s.length∧s.getD 0 0=84:=by
 have h1:=r.k1
 rcases Nat.lt_or_ge s.length 1 with h0|h0
 ·rw [xj (.inr h0)] at h1;rw [←h1] at h;cases h
 rw [dO h0] at h1
 rw [←h1] at h
 refine ⟨by rw [←h1],by rw [←h1],h0,?_⟩
 match s,h0,h with
 |x::s,_,h=>simp at h;simp [h]
theorem HR {s:List UInt8} {d:Dec} (r:Reads s d) (h:d.k1.t=[84]) (h2:d.k2.bad=true):dA s:=by
 obtain ⟨a1,a2,a3,_⟩:=Bh r h
 have h3:=r.k2
 rw [a1,a2] at h3
 have:=no h3 h2
 rw [List.length_drop] at this
 left;omega
theorem Av {s:List UInt8} {d:Dec} (r:Reads s d) (h:d.k1.t=[84]) (h2:d.k2.bad=false):¬ dA s∧numN d.k2.t=sN s∧d.k2.s=s.drop 3:=by
 obtain ⟨a1,a2,a3,a4⟩:=Bh r h
 obtain ⟨_,b2,b3,b4⟩:=gd r.k2 h2
 rw [a2] at b2 b3 b4
 rw [List.length_drop] at b2
 refine ⟨fun hh=>?_,by rw [b3];rfl,by rw [b4,List.drop_drop]⟩
 rcases hh with hh|hh
 ·omega
 ·exact hh a4
theorem GF {s:List UInt8} {d:Dec} (r:Reads s d) (h:d.k1.t=[84]) (h2:d.k2.bad=false) (h4:d.k4.bad=true):s.length<sN s+7:=by
 obtain ⟨a1,a2,a3⟩:=Av r h h2
 rcases Nat.lt_or_ge s.length (sN s+7) with h'|h'
 ·exact h'
 have r3:=r.k3
 rw [h2,a2,a3,dO (by rw [List.length_drop];omega)] at r3
 have r4:=r.k4
 rw [←r3] at r4
 have:=no r4 h4
 simp at this;omega
theorem Fl {s:List UInt8} {d:Dec} (r:Reads s d) (h:d.k1.t=[84]) (h2:d.k2.bad=false) (h4:d.k4.bad=false):sN s+7≤s.length∧d.k3.t=sB s∧d.k4.t=(s.drop (sN s+3)).take 4:=by
 obtain ⟨a1,a2,a3⟩:=Av r h h2
 obtain ⟨b1,b2,b3,b4⟩:=gd r.k4 h4
 obtain ⟨c1,c2,c3,c4⟩:=gd r.k3 b1
 rw [a2,a3] at c2 c3 c4
 rw [List.length_drop] at c2
 rw [c4] at b2 b3
 rw [List.drop_drop] at b2 b3
 rw [List.length_drop] at b2
 exact ⟨by omega,c3,by rw [b3,Nat.add_comm 3]⟩
theorem IM {s:List UInt8} {d:Dec} (r:Reads s d) {b:List UInt8} (hb:d.k3.t=b) (h9:d.j9.bad=false) (hs:d.j9.s=[]):eu b∧sb d=eS b:=by
 obtain ⟨i9,l9,t9,s9⟩:=gd r.j9 h9
 obtain ⟨i8,l8,t8,s8⟩:=gd r.j8 i9
 obtain ⟨i7,l7,t7,s7⟩:=gd r.j7 i8
 obtain ⟨i6,l6,t6,s6⟩:=gd r.j6 i7
 obtain ⟨i5,l5,t5,s5⟩:=gd r.j5 i6
 obtain ⟨i4,l4,t4,s4⟩:=gd r.j4 i5
 obtain ⟨i3,l3,t3,s3⟩:=gd r.j3 i4
 obtain ⟨i2,l2,t2,s2⟩:=gd r.j2 i3
 obtain ⟨i1,l1,t1,s1⟩:=gd r.j1 i2
 rw [hb] at t1 s1 l1
 rw [s1] at t2 s2 l2
 rw [s2,List.drop_drop] at t3 s3 l3
 rw [s3,List.drop_drop] at t4 s4 l4
 rw [s4,List.drop_drop] at t5 s5 l5
 rw [s5,List.drop_drop] at t6 s6 l6
 rw [s6,List.drop_drop] at t7 s7 l7
 rw [s7,List.drop_drop] at t8 s8 l8
 rw [s8,List.drop_drop] at t9 s9 l9
 simp only [Nat.reduceAdd,List.length_drop] at *
 have e1:∀ k,k<b.length→(b.drop k).take 1=[b.getD k 0]:=fun k hk=>by
  rw [List.drop_eq_getElem_cons hk,List.take_succ_cons,List.take_zero];simp [hk]
 have n6:numN d.j6.t=bP b:=by rw [t6,e1 21 (by omega),pR];rfl
 rw [n6] at t7 s7 l7 t8 s8 l8 t9 s9 l9
 have n8:numN d.j8.t=bD b:=by rw [t8,show 8+(14+bP b)=22+bP b from by omega];rfl
 rw [n8] at t9 s9 l9
 have hz:d.j9.s.length=0:=by rw [hs];rfl
 rw [s9] at hz
 simp only [List.length_drop] at hz
 have hok:b.length=24+bP b+bD b:=by omega
 refine ⟨hok,?_⟩
 unfold sb eS
 rw [t1,t2,t3,t4,t5,t7,t9,e1 8 (by omega),pR]
 congr 1
 ·rw [show 8+(14+bP b+2)=24+bP b from by omega]
  exact List.take_of_length_le (by rw [List.length_drop];omega)
theorem DM {s:List UInt8} {d:Dec} (r:Reads s d) {b:List UInt8} (hb:d.k3.t=b) (h:eu b):d.j9.bad=false∧d.j9.s=[]:=by
 unfold eu at h
 have e1:∀ k,k<b.length→(b.drop k).take 1=[b.getD k 0]:=fun k hk=>by
  rw [List.drop_eq_getElem_cons hk,List.take_succ_cons,List.take_zero];simp [hk]
 have r1:=r.j1
 rw [hb,dO (by omega)] at r1
 have r2:=r.j2
 rw [←r1,dO (by simp only [List.length_drop];omega),List.drop_drop] at r2
 have r3:=r.j3
 rw [←r2,dO (by simp only [List.length_drop];omega),List.drop_drop] at r3
 have r4:=r.j4
 rw [←r3,dO (by simp only [List.length_drop];omega),List.drop_drop] at r4
 have r5:=r.j5
 rw [←r4,dO (by simp only [List.length_drop];omega),List.drop_drop] at r5
 have r6:=r.j6
 rw [←r5,dO (by simp only [List.length_drop];omega),List.drop_drop,e1 _ (by omega)] at r6
 have n6:numN d.j6.t=bP b:=by rw [←r6,pR];rfl
 have r7:=r.j7
 rw [n6,←r6,dO (by simp only [List.length_drop];omega),List.drop_drop] at r7
 have r8:=r.j8
 rw [←r7,dO (by simp only [List.length_drop];omega),List.drop_drop] at r8
 have n8:numN d.j8.t=bD b:=by rw [←r8];rfl
 have r9:=r.j9
 rw [n8,←r8,dO (by simp only [List.length_drop];omega),List.drop_drop] at r9
 exact ⟨by rw [←r9],by rw [←r9];exact List.drop_eq_nil_of_le (by omega)⟩
set_option maxHeartbeats 4000000 in
theorem decode_c (s:List UInt8) (hs:s.length≤1048576):ab Tryz.prog [] 140 [S s] (ret (.tup [(cq s).1.av,I (cq s).2.1,I (cq s).2.2])):=by
 obtain ⟨d,r⟩:=reads s
 have e1:=ln r.k1 hs
 have e2:=ln r.k2 e1.1
 have e3:=ln r.k3 e2.1
 have e4:=ln r.k4 e3.1
 have f1:=ln r.j1 e3.2.1
 have f2:=ln r.j2 f1.1
 have f3:=ln r.j3 f2.1
 have f4:=ln r.j4 f3.1
 have f5:=ln r.j5 f4.1
 have f6:=ln r.j6 f5.1
 have f7:=ln r.j7 f6.1
 have f8:=ln r.j8 f7.1
 have f9:=ln r.j9 f8.1
 have hn:numN d.k2.t<65536:=H2 (k:=2) e2.2.2 (by decide)
 have ok {t:List UInt8} (h:t.length≤1048576):okS t:=by unfold okS;omega
 have c1:=qe s false 1 (ok hs) 1 rfl
 have c2:=fP d.k1.s d.k1.bad 2 (ok e1.1) 2 rfl (by decide)
 have c3:=qe d.k2.s d.k2.bad (numN d.k2.t) (ok e2.1) (numN d.k2.t:Nat) rfl
 have c4:=fP d.k3.s d.k3.bad 4 (ok e3.1) 4 rfl (by decide)
 have b1:=xJ d.k3.t false 8 (ok e3.2.1) 8 rfl (by decide)
 have b2:=fP d.j1.s d.j1.bad 1 (ok f1.1) 1 rfl (by decide)
 have b3:=fP d.j2.s d.j2.bad 4 (ok f2.1) 4 rfl (by decide)
 have b4:=fP d.j3.s d.j3.bad 4 (ok f3.1) 4 rfl (by decide)
 have b5:=fP d.j4.s d.j4.bad 4 (ok f4.1) 4 rfl (by decide)
 have b6:=fP d.j5.s d.j5.bad 1 (ok f5.1) 1 rfl (by decide)
 have b7:=qe d.j6.s d.j6.bad (numN d.j6.t) (ok f6.1) (numN d.j6.t:Nat) rfl
 have b8:=fP d.j7.s d.j7.bad 2 (ok f7.1) 2 rfl (by decide)
 have b9:=qe d.j8.s d.j8.bad (numN d.j8.t) (ok f8.1) (numN d.j8.t:Nat) rfl
 rw [r.k1] at c1
 rw [r.k2] at c2
 rw [r.k3] at c3
 rw [r.k4] at c4
 rw [r.j1] at b1
 rw [r.j2] at b2
 rw [r.j3] at b3
 rw [r.j4] at b4
 rw [r.j5] at b5
 rw [r.j6] at b6
 rw [r.j7] at b7
 rw [r.j8] at b8
 rw [r.j9] at b9
 have q3:(3+(numN d.k2.t:Int)).toNat=3+numN d.k2.t:=by omega
 have cs:=JO (s.take (3+numN d.k2.t)) (ok (by simp;omega))
 have cg:ab Tryz.prog [] 119 [(sb d).av] (ret (I (aN (sb d)))):=pM (sb d) (ok f7.2.1) (ok f9.2.1)
 unfold ATxn.av sb at cg
 refine zJ Tryz.func140 Tryz.ntmps140 Tryz.results140 ?_;simp only [go_sem]
 (repeat' first
|(with_reducible refine AR.f ?_)
|refine ap (by decide) ?_
|(with_reducible refine AWP.cond rfl ?_ ?_<;>intro hc<;>(try simp only [hcs,beq_iff_eq,ge_iff_le,gt_iff_lt] at hc))
|((first|((first|(with_reducible first|refine zR ?_|refine zQ (by decide +kernel) ?_|refine zD (by decide +kernel) ?_|refine zE (by decide +kernel) ?_|refine zG (by decide +kernel) ?_));intro K hK)|((first|refine zA cs ?_ ?_ ?_ ?_ ?_|refine zA cg ?_ ?_ ?_ ?_ ?_);(focus exact rfl);(focus exact rfl);iterate 2 (focus ((try simp (disch:=omega) only [go_sem,aa,q3,Nat.sub_zero])<;>(try omega)<;>fail)))|((first|refine zX cs rfl ?_ ?_|refine zX cg rfl ?_ ?_);(focus ((try simp (disch:=omega) only [go_sem,aa,q3,Nat.sub_zero])<;>(try omega)<;>fail)))|(refine acallH_at [1] (c1) ?_ ?_ ?_;(focus ((try simp (disch:=omega) only [inj,List.cons.injEq,and_self,List.nodup_cons,List.not_mem_nil,List.mem_cons,not_false_eq_true,List.nodup_nil,go_sem,aa,q3,Nat.sub_zero])<;>(try omega)<;>fail));(focus ((try simp (disch:=omega) only [inj,List.cons.injEq,and_self,List.nodup_cons,List.not_mem_nil,List.mem_cons,not_false_eq_true,List.nodup_nil,go_sem,aa,q3,Nat.sub_zero])<;>(try omega)<;>(try decide)<;>fail)))|(refine acallH_at [1] (c2) ?_ ?_ ?_;(focus ((try simp (disch:=omega) only [inj,List.cons.injEq,and_self,List.nodup_cons,List.not_mem_nil,List.mem_cons,not_false_eq_true,List.nodup_nil,go_sem,aa,q3,Nat.sub_zero])<;>(try omega)<;>fail));(focus ((try simp (disch:=omega) only [inj,List.cons.injEq,and_self,List.nodup_cons,List.not_mem_nil,List.mem_cons,not_false_eq_true,List.nodup_nil,go_sem,aa,q3,Nat.sub_zero])<;>(try omega)<;>(try decide)<;>fail)))|(refine acallH_at [1] (c3) ?_ ?_ ?_;(focus ((try simp (disch:=omega) only [inj,List.cons.injEq,and_self,List.nodup_cons,List.not_mem_nil,List.mem_cons,not_false_eq_true,List.nodup_nil,go_sem,aa,q3,Nat.sub_zero])<;>(try omega)<;>fail));(focus ((try simp (disch:=omega) only [inj,List.cons.injEq,and_self,List.nodup_cons,List.not_mem_nil,List.mem_cons,not_false_eq_true,List.nodup_nil,go_sem,aa,q3,Nat.sub_zero])<;>(try omega)<;>(try decide)<;>fail)))|(refine acallH_at [1] (c4) ?_ ?_ ?_;(focus ((try simp (disch:=omega) only [inj,List.cons.injEq,and_self,List.nodup_cons,List.not_mem_nil,List.mem_cons,not_false_eq_true,List.nodup_nil,go_sem,aa,q3,Nat.sub_zero])<;>(try omega)<;>fail));(focus ((try simp (disch:=omega) only [inj,List.cons.injEq,and_self,List.nodup_cons,List.not_mem_nil,List.mem_cons,not_false_eq_true,List.nodup_nil,go_sem,aa,q3,Nat.sub_zero])<;>(try omega)<;>(try decide)<;>fail)))|(refine acallH_at [2] (b1) ?_ ?_ ?_;(focus ((try simp (disch:=omega) only [inj,List.cons.injEq,and_self,List.nodup_cons,List.not_mem_nil,List.mem_cons,not_false_eq_true,List.nodup_nil,go_sem,aa,q3,Nat.sub_zero])<;>(try omega)<;>fail));(focus ((try simp (disch:=omega) only [inj,List.cons.injEq,and_self,List.nodup_cons,List.not_mem_nil,List.mem_cons,not_false_eq_true,List.nodup_nil,go_sem,aa,q3,Nat.sub_zero])<;>(try omega)<;>(try decide)<;>fail)))|(refine acallH_at [2] (b2) ?_ ?_ ?_;(focus ((try simp (disch:=omega) only [inj,List.cons.injEq,and_self,List.nodup_cons,List.not_mem_nil,List.mem_cons,not_false_eq_true,List.nodup_nil,go_sem,aa,q3,Nat.sub_zero])<;>(try omega)<;>fail));(focus ((try simp (disch:=omega) only [inj,List.cons.injEq,and_self,List.nodup_cons,List.not_mem_nil,List.mem_cons,not_false_eq_true,List.nodup_nil,go_sem,aa,q3,Nat.sub_zero])<;>(try omega)<;>(try decide)<;>fail)))|(refine acallH_at [2] (b3) ?_ ?_ ?_;(focus ((try simp (disch:=omega) only [inj,List.cons.injEq,and_self,List.nodup_cons,List.not_mem_nil,List.mem_cons,not_false_eq_true,List.nodup_nil,go_sem,aa,q3,Nat.sub_zero])<;>(try omega)<;>fail));(focus ((try simp (disch:=omega) only [inj,List.cons.injEq,and_self,List.nodup_cons,List.not_mem_nil,List.mem_cons,not_false_eq_true,List.nodup_nil,go_sem,aa,q3,Nat.sub_zero])<;>(try omega)<;>(try decide)<;>fail)))|(refine acallH_at [2] (b4) ?_ ?_ ?_;(focus ((try simp (disch:=omega) only [inj,List.cons.injEq,and_self,List.nodup_cons,List.not_mem_nil,List.mem_cons,not_false_eq_true,List.nodup_nil,go_sem,aa,q3,Nat.sub_zero])<;>(try omega)<;>fail));(focus ((try simp (disch:=omega) only [inj,List.cons.injEq,and_self,List.nodup_cons,List.not_mem_nil,List.mem_cons,not_false_eq_true,List.nodup_nil,go_sem,aa,q3,Nat.sub_zero])<;>(try omega)<;>(try decide)<;>fail)))|(refine acallH_at [2] (b5) ?_ ?_ ?_;(focus ((try simp (disch:=omega) only [inj,List.cons.injEq,and_self,List.nodup_cons,List.not_mem_nil,List.mem_cons,not_false_eq_true,List.nodup_nil,go_sem,aa,q3,Nat.sub_zero])<;>(try omega)<;>fail));(focus ((try simp (disch:=omega) only [inj,List.cons.injEq,and_self,List.nodup_cons,List.not_mem_nil,List.mem_cons,not_false_eq_true,List.nodup_nil,go_sem,aa,q3,Nat.sub_zero])<;>(try omega)<;>(try decide)<;>fail)))|(refine acallH_at [2] (b6) ?_ ?_ ?_;(focus ((try simp (disch:=omega) only [inj,List.cons.injEq,and_self,List.nodup_cons,List.not_mem_nil,List.mem_cons,not_false_eq_true,List.nodup_nil,go_sem,aa,q3,Nat.sub_zero])<;>(try omega)<;>fail));(focus ((try simp (disch:=omega) only [inj,List.cons.injEq,and_self,List.nodup_cons,List.not_mem_nil,List.mem_cons,not_false_eq_true,List.nodup_nil,go_sem,aa,q3,Nat.sub_zero])<;>(try omega)<;>(try decide)<;>fail)))|(refine acallH_at [2] (b7) ?_ ?_ ?_;(focus ((try simp (disch:=omega) only [inj,List.cons.injEq,and_self,List.nodup_cons,List.not_mem_nil,List.mem_cons,not_false_eq_true,List.nodup_nil,go_sem,aa,q3,Nat.sub_zero])<;>(try omega)<;>fail));(focus ((try simp (disch:=omega) only [inj,List.cons.injEq,and_self,List.nodup_cons,List.not_mem_nil,List.mem_cons,not_false_eq_true,List.nodup_nil,go_sem,aa,q3,Nat.sub_zero])<;>(try omega)<;>(try decide)<;>fail)))|(refine acallH_at [2] (b8) ?_ ?_ ?_;(focus ((try simp (disch:=omega) only [inj,List.cons.injEq,and_self,List.nodup_cons,List.not_mem_nil,List.mem_cons,not_false_eq_true,List.nodup_nil,go_sem,aa,q3,Nat.sub_zero])<;>(try omega)<;>fail));(focus ((try simp (disch:=omega) only [inj,List.cons.injEq,and_self,List.nodup_cons,List.not_mem_nil,List.mem_cons,not_false_eq_true,List.nodup_nil,go_sem,aa,q3,Nat.sub_zero])<;>(try omega)<;>(try decide)<;>fail)))|(refine acallH_at [2] (b9) ?_ ?_ ?_;(focus ((try simp (disch:=omega) only [inj,List.cons.injEq,and_self,List.nodup_cons,List.not_mem_nil,List.mem_cons,not_false_eq_true,List.nodup_nil,go_sem,aa,q3,Nat.sub_zero])<;>(try omega)<;>fail));(focus ((try simp (disch:=omega) only [inj,List.cons.injEq,and_self,List.nodup_cons,List.not_mem_nil,List.mem_cons,not_false_eq_true,List.nodup_nil,go_sem,aa,q3,Nat.sub_zero])<;>(try omega)<;>(try decide)<;>fail)))|((first|(with_reducible refine aunder_i ?_ ?_<;>intro hg)|with_reducible intro hg)<;>(first|(exfalso;simp at hg;done)|(have hg':=hg;(try simp only [hcs,beq_iff_eq,ge_iff_le,gt_iff_lt] at hg');(try simp only [hg])))))<;>(try simp (disch:=omega) only [go_sem,aa,q3,Nat.sub_zero])<;>(repeat' with_reducible refine And.intro ?_ ?_)<;>(try (with_reducible refine hK _ ?_;clear hK K)))
|omega)
 ·rw [qJ (Gq r hc)];(refine zF rfl ?_ ?_ ?_ ?_;(iterate 3 (focus ((try simp (disch:=omega) only [go_sem,aa,tz])<;>(try omega)<;>fail)));(try simp (disch:=omega) only [go_sem,aa,tz,I,B,S,zj]))
 all_goals (have hk:d.k1.t=[84]:=by assumption)
 ·cases hb:d.k2.bad with
  |true=>rw [qJ (HR r hk hb)];(refine zF rfl ?_ ?_ ?_ ?_;(iterate 3 (focus ((try simp (disch:=omega) only [go_sem,aa,tz])<;>(try omega)<;>fail)));(try simp (disch:=omega) only [go_sem,aa,tz,I,B,S,zj]))
  | false=>
    obtain ⟨a1,a2,a3⟩:=Av r hk hb
    rw [vq a1 (.inl (by rw [hb] at hc;rw [←a2];rcases hc with hc|hc;cases hc;omega))];(refine zF rfl ?_ ?_ ?_ ?_;(iterate 3 (focus ((try simp (disch:=omega) only [go_sem,aa,tz])<;>(try omega)<;>fail)));(try simp (disch:=omega) only [go_sem,aa,tz,I,B,S,zj]))
 all_goals (have hb:d.k2.bad=false∧(numN d.k2.t:Int)≤1024:=by assumption)
 all_goals obtain ⟨a1,a2,a3⟩:=Av r hk hb.1
 ·rw [vq a1 (.inr (GF r hk hb.1 hc))];(refine zF rfl ?_ ?_ ?_ ?_;(iterate 3 (focus ((try simp (disch:=omega) only [go_sem,aa,tz])<;>(try omega)<;>fail)));(try simp (disch:=omega) only [go_sem,aa,tz,I,B,S,zj]))
 all_goals (have h4:d.k4.bad=false:=by assumption)
 all_goals obtain ⟨x1,x2,x3⟩:=Fl r hk hb.1 h4
 ·omega
 all_goals (have a4:¬ dV s:=fun h=>by unfold dV at h;omega)
 all_goals (have ee1:mR (List.take (3+numN d.k2.t) s)=mR (List.take (sN s+3) s):=by rw [a2,Nat.add_comm])
 all_goals (have ee2:numN d.k4.t=numN (List.take 4 (List.drop (sN s+3) s)):=by rw [x3])
 ·rw [yL a1 a4 (by unfold gO;omega)];(refine zF rfl ?_ ?_ ?_ ?_;(iterate 3 (focus ((try simp (disch:=omega) only [go_sem,aa,tz])<;>(try omega)<;>fail)));(try simp (disch:=omega) only [go_sem,aa,tz,I,B,S,zj]))
 all_goals (have a5:¬ gO s:=fun h=>by unfold gO at h;omega)
 ·have hno:¬ eu (sB s):=fun h=>by
   obtain ⟨u1,u2⟩:=DM r x2 h
   rcases hc with hc|hc
   ·rw [u1] at hc;cases hc
   ·exact hc u2
  rw [Aq a1 a4 a5 hno];(refine zF rfl ?_ ?_ ?_ ?_;(iterate 3 (focus ((try simp (disch:=omega) only [go_sem,aa,tz])<;>(try omega)<;>fail)));(try simp (disch:=omega) only [go_sem,aa,tz,I,B,S,zj]))
 all_goals (have h9:d.j9.bad=false∧d.j9.s=[]:=by assumption)
 all_goals obtain ⟨y1,y2⟩:=IM r x2 h9.1 h9.2
 ·have hg2:aN (eS (sB s))≠0:=y2▸hc
  rw [yT a1 a4 a5 y1 hg2,←y2];(refine zF rfl ?_ ?_ ?_ ?_;(iterate 3 (focus ((try simp (disch:=omega) only [go_sem,aa,tz,sb])<;>(try omega)<;>fail)));(try simp (disch:=omega) only [go_sem,aa,tz,sb,I,B,S,zj]))
 ·have hg2:aN (eS (sB s))=0:=y2▸hc
  rw [vu a1 a4 a5 y1 hg2,←y2];(refine zF rfl ?_ ?_ ?_ ?_;(iterate 3 (focus ((try simp (disch:=omega) only [go_sem,aa,sb,Int.natCast_add,a2])<;>(try omega)<;>fail)));(try simp (disch:=omega) only [go_sem,aa,sb,Int.natCast_add,a2,I,B,S,zj]))
def e9 (l:List Int):Prop:=∀ k,k+1<l.length→l.getD k default<l.getD (k+1) default
theorem eo {l:List Int} (h:e9 l) {i:Nat}:∀ {j:Nat},i<j→j<l.length→l.getD i default<l.getD j default
 |0,h1,_=>by omega
 | j+1,h1,h2=>by
   by_cases e:i=j
   ·subst e;exact h i h2
   ·exact Int.lt_trans (eo h (by omega) (by omega)) (h j h2)
def aS (l:List Int) (key:Int):Nat:=l.findIdx fun x=>!decide (x<key)
theorem nR {l:List Int} {key:Int} {i:Nat} (h0:i≤l.length) (h1:∀ k,k<i→l.getD k default<key) (h2:i<l.length→¬ l.getD i default<key):aS l key=i:=by
 unfold aS
 by_cases e:i<l.length
 ·rw [List.findIdx_eq e]
  have h3:=h2 e
  rw [List.getD_eq_getElem?_getD,List.getElem?_eq_getElem e] at h3
  refine ⟨by simpa using h3,fun j hj=>?_⟩
  have h4:=h1 j hj
  rw [List.getD_eq_getElem?_getD,List.getElem?_eq_getElem (by omega)] at h4
  simpa using h4
 ·have e2:i=l.length:=by omega
  subst e2
  rw [List.findIdx_eq_length]
  intro x hx
  obtain ⟨j,hj,rfl⟩:=List.getElem_of_mem hx
  have h4:=h1 j hj
  rw [List.getD_eq_getElem?_getD,List.getElem?_eq_getElem hj] at h4
  simpa using h4
theorem zo {l:List Int} {key:Int} {i:Nat} (hr:e9 l) (h1:∀ k,k<i→l.getD k default<key) (h2:i<l.length→¬ l.getD i default<key):key∈l↔i<l.length∧l.getD i default=key:=by
 rw [bx l default]
 constructor
 ·rintro ⟨k,hk,e⟩
  have a:¬ k<i:=fun hki=>by have:=h1 k hki;omega
  have b:¬ i<k:=fun hik=>by
   have:=eo hr hik hk
   rw [e] at this;exact h2 (by omega) this
  have c:i=k:=by omega
  subst c;exact ⟨hk,e⟩
 ·rintro ⟨h,e⟩;exact ⟨i,h,e⟩
theorem uo (l:List Int) (key:Int) (h:l.length*8≤140737488351232) (hr:e9 l) :
  ab Tryz.prog [] 69 [.d (.sl 1 (l.map cU)),I key] (ret (.tup [I (aS l key),B (decide (key∈l))])):=by
 refine zJ Tryz.func69 Tryz.ntmps69 Tryz.results69 ?_;simp only [go_sem]
 (refine zW qw zn trivial (z1 ?_)<;>(repeat with_reducible intro hc))
 refine AWP.loopS (ι:=Nat×Nat) (fun v=>v.1≤v.2∧v.2≤l.length∧(∀ k,k<v.1→l.getD k default<key)∧(v.2<l.length→¬ l.getD v.2 default<key)) (fun v=>v.2-v.1) [0,1,6] (fun v=>[(7,I v.1),(8,I v.2)]) (0,l.length) ?_ (by simp (disch:=omega) only [go_sem,aa,true_and]) ?_
 ·exact ⟨by simp,by simp,fun k hk=>by simp at hk,fun k=>by simp at k⟩
 intro ⟨i,j⟩ ⟨h1,h2,h3,h4⟩
 simp only at h1 h2 h3 h4
 simp only [go_sem]
 (repeat' first
|(with_reducible refine AR.f ?_)
|refine ap (by decide) ?_
|(with_reducible refine AWP.cond rfl ?_ ?_<;>intro hc<;>(try simp only [hcs,beq_iff_eq,ge_iff_le,gt_iff_lt] at hc))
|(refine bM fun Kk hKk=>(cm bQ Tryz.func123 rfl (by kernel_rfl) (by simp [Tryz.ntmps123]) ?_);simp only [Tryz.ntmps123,Tryz.results123,List.toList_toArray,fU,List.length_nil,List.length_cons,Nat.reduceAdd,List.length_append,List.length_set,go_sem])
|(refine bM fun Kk hKk=>(cm bQ Tryz.func189 rfl (by kernel_rfl) (by simp [Tryz.ntmps189]) ?_);simp only [Tryz.ntmps189,Tryz.results189,List.toList_toArray,fU,List.length_nil,List.length_cons,Nat.reduceAdd,List.length_append,List.length_set,go_sem])
|(refine bM fun Kk hKk=>(cm bQ Tryz.func124 rfl (by kernel_rfl) (by simp [Tryz.ntmps124]) ?_);simp only [Tryz.ntmps124,Tryz.results124,List.toList_toArray,fU,List.length_nil,List.length_cons,Nat.reduceAdd,List.length_append,List.length_set,go_sem])
|((first|((first|(with_reducible first|refine zR ?_|refine zQ (by decide +kernel) ?_|refine zD (by decide +kernel) ?_|refine zE (by decide +kernel) ?_|refine zG (by decide +kernel) ?_));intro K hK)|(refine aend_in (v:=?_) hKk (by first|exact .inl rfl|exact .inr rfl) ?_ ?_ ?_;rotate_left;(focus ((try simp (disch:=omega) only [go_sem,aa,jM])<;>(try omega)<;>fail));(focus ((try simp (disch:=omega) only [go_sem,aa,jM])<;>(first|done|exact rfl)));clear hKk Kk)|((first|(with_reducible refine aunder_i ?_ ?_<;>intro hg)|with_reducible intro hg)<;>(first|(exfalso;simp at hg;done)|(have hg':=hg;(try simp only [hcs,beq_iff_eq,ge_iff_le,gt_iff_lt] at hg');(try simp only [hg])))))<;>(try simp (disch:=omega) only [go_sem,aa,jM])<;>(repeat' with_reducible refine And.intro ?_ ?_)<;>(try (with_reducible refine hK _ ?_;clear hK K)))
|omega)
 ·refine ⟨((i+j)/2+1,j),⟨by simp only;omega,h2,fun k hk=>?_,h4⟩,by simp only;omega,?_⟩
  ·by_cases e:k=(i+j)/2
   ·rw [e];exact hc
   ·exact Int.lt_trans (eo (j:=(i+j)/2) hr (by simp only at hk;omega) (by omega)) hc
  exact zSm trivial
 ·refine ⟨(i,(i+j)/2),⟨by simp only;omega,by simp only;omega,h3,fun _=>Int.not_lt.2 hc⟩,by simp only;omega,?_⟩
  exact zSm trivial
 all_goals
  have e0:i=j:=by omega
  subst e0
  have e1:aS l key=i:=nR (by omega) h3 h4
  have e2:key∈l↔i<l.length∧l.getD i default=key:=zo hr h3 h4
  (refine zE2 @e1 ?_;(try simp (disch:=omega) only [go_sem,aa,e1,I,B,S,zj]))
  simp only [e2]
  simp at hg;simp
def bsI (lt:Nat→Bool):Nat→Nat→Nat→Nat
 |0,i,_=>i
 |f+1,i,j=>if i<j then (if lt ((i+j)/2)=true then bsI lt f ((i+j)/2+1) j else bsI lt f i ((i+j)/2)) else i
def ltN (ns:List (List UInt8)) (key:List UInt8) (k:Nat):Bool:=decide (ns.getD k []<key)
def bsN (ns:List (List UInt8)) (key:List UInt8):Nat:=bsI (ltN ns key) ns.length 0 ns.length
def gz (ns:List (List UInt8)) (key:List UInt8):Bool:=decide (bsN ns key<ns.length∧ns.getD (bsN ns key) []=key)
theorem A6 {lt:Nat→Bool} {f i:Nat}:bsI lt f i i=i:=by
 cases f with
 |zero=>rfl
 |succ f=>rw [bsI,if_neg (by omega)]
theorem Eb {lt:Nat→Bool} {f i j:Nat} (h:i<j) (h2:lt ((i+j)/2)=true):bsI lt (f+1) i j=bsI lt f ((i+j)/2+1) j:=by rw [bsI,if_pos h,if_pos h2]
theorem G9 {lt:Nat→Bool} {f i j:Nat} (h:i<j) (h2:¬ lt ((i+j)/2)=true):bsI lt (f+1) i j=bsI lt f i ((i+j)/2):=by rw [bsI,if_pos h,if_neg h2]
theorem nY {ns:List (List UInt8)} {key:List UInt8} (hr:aV ns):∀ {f i j:Nat},i≤j→j≤ns.length→j-i≤f→(∀ k,k<i→ns.getD k []<key)→(j<ns.length→¬ ns.getD j []<key)→bsI (ltN ns key) f i j=place ns key
 | 0,i,j,h1,h2,h3,h4,h5=>by
   rw [bsI]
   rw [show j=i from by omega] at h5
   exact (gM (by omega) h4 h5).symm
 | f + 1,i,j,h1,h2,h3,h4,h5=>by
   by_cases h:i<j
   ·by_cases hc:ltN ns key ((i+j)/2)=true
    ·rw [Eb h hc]
     unfold ltN at hc
     rw [decide_eq_true_eq] at hc
     refine nY hr (by omega) h2 (by omega) (fun k hk=>?_) h5
     by_cases e:k=(i+j)/2
     ·rw [e];exact hc
     ·exact List.lt_trans (bd (j:=(i+j)/2) hr (by omega) (by omega)) hc
    ·rw [G9 h hc]
     unfold ltN at hc
     rw [decide_eq_true_eq] at hc
     exact nY hr (by omega) (by omega) (by omega) h4 fun _=>hc
   ·rw [show j=i from by omega] at h5 ⊢
    rw [A6]
    exact (gM (by omega) h4 h5).symm
theorem sH {ns:List (List UInt8)} {key:List UInt8} (hr:aV ns):bsN ns key=place ns key:=
 nY hr (Nat.zero_le _) (Nat.le_refl _) (by omega) (fun k hk=>by omega) (fun h=>by omega)
theorem mZ {ns:List (List UInt8)} {key:List UInt8} (hr:aV ns):gz ns key=decide (key∈ns):=by
 unfold gz
 rw [sH hr,decide_eq_decide]
 constructor
 ·rintro ⟨h1,h2⟩;rw [←h2];exact cp _ _ h1
 ·exact ao hr
theorem y4 {ns:List (List UInt8)} {key:List UInt8} (h:gz ns key=true):key∈ns:=by
 unfold gz at h
 rw [decide_eq_true_eq] at h
 have:=cp ns [] h.1
 rwa [h.2] at this
theorem BZ (l:List ANode) (key:List UInt8) (h:l.length*88≤140737488351232) :
  ab Tryz.prog [] 130 [.d (.sl 9 (l.map ANode.row)),S key,.d (.sc (.func (.func 131) #[] #[]))]
   (ret (.tup [I (bsN (l.map ANode.path) key),B (gz (l.map ANode.path) key)])):=by
 have hn:∀ k,(l.map ANode.path).getD k []=(l.getD k default).path:=fun k=>fM ANode.path l k default
 refine zJ Tryz.func130 Tryz.ntmps130 Tryz.results130 ?_;simp only [go_sem]
 (refine zW qw zn trivial (z1 ?_)<;>(repeat with_reducible intro hc))
 refine AWP.loopS (ι:=Nat×Nat×Nat) (fun v=>v.2.1≤v.2.2∧v.2.2≤l.length∧v.2.2-v.2.1≤v.1∧bsI (ltN (l.map ANode.path) key) v.1 v.2.1 v.2.2=bsN (l.map ANode.path) key) (fun v=>v.1) [0,1,2,8] (fun v=>[(9,I v.2.1),(10,I v.2.2)]) (l.length,0,l.length) ?_ (by simp (disch:=omega) only [go_sem,aa,true_and]) ?_
 ·refine ⟨by simp,by simp,by simp,?_⟩
  unfold bsN;simp only [List.length_map]
 intro ⟨f,i,j⟩ ⟨h1,h2,h3,h4⟩
 simp only at h1 h2 h3 h4
 simp only [go_sem]
 (repeat' first
|(with_reducible refine AR.f ?_)
|refine ap (by decide) ?_
|(with_reducible refine AWP.cond rfl ?_ ?_<;>intro hc<;>(try simp only [hcs,beq_iff_eq,ge_iff_le,gt_iff_lt] at hc))
|((first|((first|(with_reducible first|refine zR ?_|refine zQ (by decide +kernel) ?_|refine zD (by decide +kernel) ?_|refine zE (by decide +kernel) ?_|refine zG (by decide +kernel) ?_));intro K hK)|((first|refine acallH_sc (treeCmp_c _ _) rfl rfl ?_ ?_ ?_|refine acallQ_sc (treeCmp_c _ _) rfl rfl ?_ ?_ ?_);iterate 2 (focus ((try simp (disch:=omega) only [go_sem,aa,jM])<;>(try omega)<;>fail)))|((first|refine zX (treeCmp_c _ _) rfl ?_ ?_);(focus ((try simp (disch:=omega) only [go_sem,aa,jM])<;>(try omega)<;>fail)))|((first|(with_reducible refine aunder_i ?_ ?_<;>intro hg)|with_reducible intro hg)<;>(first|(exfalso;simp at hg;done)|(have hg':=hg;(try simp only [hcs,beq_iff_eq,ge_iff_le,gt_iff_lt] at hg');(try simp only [hg])))))<;>(try simp (disch:=omega) only [go_sem,aa,jM])<;>(repeat' with_reducible refine And.intro ?_ ?_)<;>(try (with_reducible refine hK _ ?_;clear hK K)))
|omega)
 ·rw [jd] at hc
  obtain ⟨g,rfl⟩:∃ g,f=g+1:=⟨f-1,by omega⟩
  have hlt:ltN (l.map ANode.path) key ((i+j)/2)=true:=by unfold ltN;rw [decide_eq_true_eq,hn];exact hc
  rw [Eb (by omega) hlt] at h4
  refine ⟨(g,(i+j)/2+1,j),⟨by simp only;omega,h2,by simp only;omega,h4⟩,by simp only;omega,?_⟩
  exact zSm trivial
 ·have hc2:¬ mY (l.getD ((i+j)/2) default).path key<0:=by omega
  rw [jd,←hn] at hc2
  obtain ⟨g,rfl⟩:∃ g,f=g+1:=⟨f-1,by omega⟩
  have hlt:¬ ltN (l.map ANode.path) key ((i+j)/2)=true:=by unfold ltN;rw [decide_eq_true_eq];exact hc2
  rw [G9 (by omega) hlt] at h4
  refine ⟨(g,i,(i+j)/2),⟨by simp only;omega,by simp only;omega,by simp only;omega,h4⟩,by simp only;omega,?_⟩
  exact zSm trivial
 all_goals
  have e0:i=j:=by omega
  subst e0
  rw [A6] at h4
  (refine zE2 (zx @h4 @gz.eq_1) ?_;(try simp (disch:=omega) only [go_sem,aa,h4,gz,I,B,S,zj]))
  simp only [←h4,gz,List.length_map,hn,uJ]
  simp at hg;simp;try omega
end Go.Proofs.YtjcooccnfkfjhaaGreatDoor
