/- A part of what Tops leans on: texts of this claim, one behind the other. No condition. -/
import Derived.Laws.BitsAllLaws
import Derived.Test.YtjcooccnfkfjhaaGreatDoorTopsK6
namespace Go.Proofs.YtjcooccnfkfjhaaGreatDoor
set_option linter.unusedVariables false
set_option linter.unusedSimpArgs false
open Go Go.RowKit
set_option maxRecDepth 100000
theorem kj (i j:Nat) (h:i+j < 9223372036854775808):IntKind.i64.wrap (IntKind.u64.wrap ((i:Int)+j) / 2)=(((i+j) / 2:Nat):Int):=by
  have e:IntKind.u64.wrap ((i:Int)+j)=((i+j:Nat):Int):=by simp [IntKind.wrap,IntKind.bits,IntKind.signed];omega
  rw [e]
  have e2:(((i+j:Nat):Int) / 2)=(((i+j) / 2:Nat):Int):=by omega
  rw [e2];simp [IntKind.wrap,IntKind.bits,IntKind.signed];omega
theorem diskCmp_c (f:AFile) (n:List UInt8):ab Tryz.prog [] 198 [f.av,S n] (ret (I (nv f.name n))):=by
  refine zJ Tryz.func198 Tryz.ntmps198 Tryz.results198 ?_;simp only [go_sem]
  (refine zW qw (z1 (pb _ _)) trivial (z1 ?_)<;>(repeat with_reducible intro hc))
  exact zEe @nv.eq_1
theorem EH (l:List AFile) (key:List UInt8) (h:l.length*48≤140737488351232) (hr:aU (l.map AFile.name)) :
    ab Tryz.prog [] 197 [.d (.sl 3 (l.map AFile.row)),S key,.d (.sc (.func (.func 198) #[] #[]))]
      (ret (.tup [I (place (l.map AFile.name) key),B (decide (key∈l.map AFile.name))])):=by
  have hn:∀ k,(l.map AFile.name).getD k []=(l.getD k default).name:=fun k=>fY AFile.name l k default
  refine zJ Tryz.func197 Tryz.ntmps197 Tryz.results197 ?_;simp only [go_sem]
  (refine zW qw zn trivial (z1 ?_)<;>(repeat with_reducible intro hc))
  refine AWP.loopS (ι:=Nat×Nat) (fun v=>v.1≤v.2∧v.2≤l.length∧(∀ k,k < v.1→(l.map AFile.name).getD k [] < key)∧(v.2 < l.length→¬ (l.map AFile.name).getD v.2 [] < key)) (fun v=>v.2 - v.1) [0,1,2,8] (fun v=>[(9,I v.1),(10,I v.2)]) (0,l.length) ?_ (by simp (disch:=omega) only [go_sem,aa,true_and]) ?_
  · exact ⟨by simp,by simp,fun k hk=>by simp at hk,fun k=>by simp at k⟩
  intro ⟨i,j⟩ ⟨h1,h2,h3,h4⟩
  simp only at h1 h2 h3 h4
  simp only [go_sem]
  (repeat' first
| (with_reducible refine AR.f ?_)
| refine ap (by decide) ?_
| (with_reducible refine AWP.cond rfl ?_ ?_<;>intro hc<;>(try simp only [hcs,beq_iff_eq,ge_iff_le,gt_iff_lt] at hc))
| ((first | ((first | (with_reducible first | refine zR ?_ | refine zQ (by decide +kernel) ?_ | refine zD (by decide +kernel) ?_ | refine zE (by decide +kernel) ?_ | refine zG (by decide +kernel) ?_));intro K hK) | ((first | refine acallH_sc (diskCmp_c _ _) rfl rfl ?_ ?_ ?_ | refine acallQ_sc (diskCmp_c _ _) rfl rfl ?_ ?_ ?_);iterate 2 (focus ((try simp (disch:=omega) only [go_sem,aa,kj])<;>(try omega)<;>fail))) | ((first | refine zX (diskCmp_c _ _) rfl ?_ ?_);(focus ((try simp (disch:=omega) only [go_sem,aa,kj])<;>(try omega)<;>fail))) | ((first | (with_reducible refine aunder_i ?_ ?_<;>intro hg) | with_reducible intro hg)<;>(first | (exfalso;simp at hg;done) | (have hg':=hg;(try simp only [hcs,beq_iff_eq,ge_iff_le,gt_iff_lt] at hg');(try simp only [hg])))))<;>(try simp (disch:=omega) only [go_sem,aa,kj])<;>(repeat' with_reducible refine And.intro ?_ ?_)<;>(try (with_reducible refine hK _ ?_;clear hK K)))
| omega)
  · rw [iQ] at hc
    refine ⟨((i+j) / 2+1,j),⟨by simp only;omega,h2,fun k hk=>?_,h4⟩,by simp only;omega,?_⟩
    · by_cases e:k=(i+j) / 2
      · rw [e,hn];exact hc
      · refine List.lt_trans (bd (j:=(i+j) / 2) hr (by simp only at hk;omega) (by simp;omega)) ?_
        rw [hn];exact hc
    exact zSm trivial
  · have hc2:¬ nv (l.getD ((i+j) / 2) default).name key < 0:=by omega
    rw [iQ,←hn] at hc2
    refine ⟨(i,(i+j) / 2),⟨by simp only;omega,by simp only;omega,h3,fun _=>hc2⟩,by simp only;omega,?_⟩
    exact zSm trivial
  · have e0:i=j:=by omega
    subst e0
    have e1:place (l.map AFile.name) key=i:=gU (by simp;omega) h3 (fun h=>h4 (by simpa using h))
    have e2:key∈l.map AFile.name↔i < (l.map AFile.name).length∧(l.map AFile.name).getD i []=key:=lI hr h3 (fun h=>h4 (by simpa using h))
    (refine zE2 @e1 ?_;(try simp (disch:=omega) only [go_sem,aa,e1,I,B,S,zj]))
    simp only [vS,e2,hn,List.length_map]
    simp at hg;simp [hg]
  · have e0:i=j:=by omega
    subst e0
    have e1:place (l.map AFile.name) key=i:=gU (by simp;omega) h3 (fun h=>h4 (by simpa using h))
    have e2:key∈l.map AFile.name↔i < (l.map AFile.name).length∧(l.map AFile.name).getD i []=key:=lI hr h3 (fun h=>h4 (by simpa using h))
    (refine zE2 @e1 ?_;(try simp (disch:=omega) only [go_sem,aa,e1,I,B,S,zj]))
    simp only [e2,List.length_map]
    simp at hg;simp;omega
theorem clientCmp_c (f:AEntry) (n:List UInt8):ab Tryz.prog [] 233 [f.av,S n] (ret (I (nv f.path n))):=by
  refine zJ Tryz.func233 Tryz.ntmps233 Tryz.results233 ?_;simp only [go_sem]
  (refine zW qw (z1 (pb _ _)) trivial (z1 ?_)<;>(repeat with_reducible intro hc))
  exact zEe @nv.eq_1
theorem C8 (l:List AEntry) (key:List UInt8) (h:l.length*40≤140737488351232) (hr:aU (l.map AEntry.path)) :
    ab Tryz.prog [] 232 [.d (.sl 3 (l.map AEntry.row)),S key,.d (.sc (.func (.func 233) #[] #[]))]
      (ret (.tup [I (place (l.map AEntry.path) key),B (decide (key∈l.map AEntry.path))])):=by
  have hn:∀ k,(l.map AEntry.path).getD k []=(l.getD k default).path:=fun k=>fY AEntry.path l k default
  refine zJ Tryz.func232 Tryz.ntmps232 Tryz.results232 ?_;simp only [go_sem]
  (refine zW qw zn trivial (z1 ?_)<;>(repeat with_reducible intro hc))
  refine AWP.loopS (ι:=Nat×Nat) (fun v=>v.1≤v.2∧v.2≤l.length∧(∀ k,k < v.1→(l.map AEntry.path).getD k [] < key)∧(v.2 < l.length→¬ (l.map AEntry.path).getD v.2 [] < key)) (fun v=>v.2 - v.1) [0,1,2,8] (fun v=>[(9,I v.1),(10,I v.2)]) (0,l.length) ?_ (by simp (disch:=omega) only [go_sem,aa,true_and]) ?_
  · exact ⟨by simp,by simp,fun k hk=>by simp at hk,fun k=>by simp at k⟩
  intro ⟨i,j⟩ ⟨h1,h2,h3,h4⟩
  simp only at h1 h2 h3 h4
  simp only [go_sem]
  (repeat' first
| (with_reducible refine AR.f ?_)
| refine ap (by decide) ?_
| (with_reducible refine AWP.cond rfl ?_ ?_<;>intro hc<;>(try simp only [hcs,beq_iff_eq,ge_iff_le,gt_iff_lt] at hc))
| ((first | ((first | (with_reducible first | refine zR ?_ | refine zQ (by decide +kernel) ?_ | refine zD (by decide +kernel) ?_ | refine zE (by decide +kernel) ?_ | refine zG (by decide +kernel) ?_));intro K hK) | ((first | refine acallH_sc (clientCmp_c _ _) rfl rfl ?_ ?_ ?_ | refine acallQ_sc (clientCmp_c _ _) rfl rfl ?_ ?_ ?_);iterate 2 (focus ((try simp (disch:=omega) only [go_sem,aa,kj])<;>(try omega)<;>fail))) | ((first | refine zX (clientCmp_c _ _) rfl ?_ ?_);(focus ((try simp (disch:=omega) only [go_sem,aa,kj])<;>(try omega)<;>fail))) | ((first | (with_reducible refine aunder_i ?_ ?_<;>intro hg) | with_reducible intro hg)<;>(first | (exfalso;simp at hg;done) | (have hg':=hg;(try simp only [hcs,beq_iff_eq,ge_iff_le,gt_iff_lt] at hg');(try simp only [hg])))))<;>(try simp (disch:=omega) only [go_sem,aa,kj])<;>(repeat' with_reducible refine And.intro ?_ ?_)<;>(try (with_reducible refine hK _ ?_;clear hK K)))
| omega)
  · rw [iQ] at hc
    refine ⟨((i+j) / 2+1,j),⟨by simp only;omega,h2,fun k hk=>?_,h4⟩,by simp only;omega,?_⟩
    · by_cases e:k=(i+j) / 2
      · rw [e,hn];exact hc
      · refine List.lt_trans (bd (j:=(i+j) / 2) hr (by simp only at hk;omega) (by simp;omega)) ?_
        rw [hn];exact hc
    exact zSm trivial
  · have hc2:¬ nv (l.getD ((i+j) / 2) default).path key < 0:=by omega
    rw [iQ,←hn] at hc2
    refine ⟨(i,(i+j) / 2),⟨by simp only;omega,by simp only;omega,h3,fun _=>hc2⟩,by simp only;omega,?_⟩
    exact zSm trivial
  · have e0:i=j:=by omega
    subst e0
    have e1:place (l.map AEntry.path) key=i:=gU (by simp;omega) h3 (fun h=>h4 (by simpa using h))
    have e2:key∈l.map AEntry.path↔i < (l.map AEntry.path).length∧(l.map AEntry.path).getD i []=key:=lI hr h3 (fun h=>h4 (by simpa using h))
    (refine zE2 @e1 ?_;(try simp (disch:=omega) only [go_sem,aa,e1,I,B,S,zj]))
    simp only [vS,e2,hn,List.length_map]
    simp at hg;simp [hg]
  · have e0:i=j:=by omega
    subst e0
    have e1:place (l.map AEntry.path) key=i:=gU (by simp;omega) h3 (fun h=>h4 (by simpa using h))
    have e2:key∈l.map AEntry.path↔i < (l.map AEntry.path).length∧(l.map AEntry.path).getD i []=key:=lI hr h3 (fun h=>h4 (by simpa using h))
    (refine zE2 @e1 ?_;(try simp (disch:=omega) only [go_sem,aa,e1,I,B,S,zj]))
    simp only [e2,List.length_map]
    simp at hg;simp;omega
theorem treeCmp_c (f:ANode) (n:List UInt8):ab Tryz.prog [] 131 [f.av,S n] (ret (I (nv f.path n))):=by
  refine zJ Tryz.func131 Tryz.ntmps131 Tryz.results131 ?_;simp only [go_sem]
  (refine zW qw (z1 (pb _ _)) trivial (z1 ?_)<;>(repeat with_reducible intro hc))
  exact zEe @nv.eq_1
theorem dh (i:Nat):((i:Int)+1).toNat=i+1:=by omega
theorem di (i n:Nat) (h:i≤n):((n:Int) - i).toNat=n - i:=by omega
theorem vz (i n:Nat) (h:i≤n+1):((n:Int)+1 - i).toNat=n+1 - i:=by omega
theorem vY (i n:Nat) (h:i≤n+1):((n:Int)+1 - i)=((n+1 - i:Nat):Int):=by omega
theorem gc {α:Type} (R:List α) (i:Nat):R.eraseIdx i=R.take i++R.drop (i+1):=List.eraseIdx_eq_take_drop_succ R i
theorem ng {α:Type} {R junk X z t:List α} {i q m:Nat} (h:i < R.length) (hq:q=R.length - 1) (hm:m=R.length - (i+1)) :
    List.take q (List.take q (List.take i (R++junk)++List.take m (List.drop (i+1) (R++junk))++X)++z++t)=R.eraseIdx i:=by
  have e1:List.take i (R++junk)=R.take i:=List.take_append_of_le_length (by omega)
  have e2:List.take m (List.drop (i+1) (R++junk))=R.drop (i+1):=by
    rw [List.drop_append_of_le_length (by omega),hm]
    have:R.length - (i+1)=(R.drop (i+1)).length:=by simp
    rw [this,List.take_append_of_le_length (Nat.le_refl _),List.take_length]
  have e3:(R.take i++R.drop (i+1)).length=q:=by simp;omega
  rw [e1,e2,gc]
  have e4:List.take q (R.take i++R.drop (i+1)++X)=R.take i++R.drop (i+1):=by
    rw [←e3,List.take_append_of_le_length (Nat.le_refl _),List.take_length]
  rw [e4,List.append_assoc,←e3,List.take_append_of_le_length (Nat.le_refl _),List.take_length]
theorem ny {α:Type} {R junk X z t:List α} {i q:Nat} (h:i+1=R.length) (hq:q=i) :
    List.take q (List.take q (List.take i (R++junk)++X)++z++t)=R.eraseIdx i:=by
  subst hq
  have e1:List.take q (R++junk)=R.take q:=List.take_append_of_le_length (by omega)
  have e3:(R.take q).length=q:=by simp;omega
  have e2:R.drop (q+1)=[]:=List.drop_eq_nil_of_le (by omega)
  have e4:List.take q (R.take q++X)=R.take q:=by
    have:=List.take_append_of_le_length (l₁:=R.take q) (l₂:=X) (i:=q) (by omega)
    rw [this,List.take_of_length_le (by omega)]
  rw [e1,e4,gc,e2,List.append_nil,List.append_assoc]
  have:=List.take_append_of_le_length (l₁:=R.take q) (l₂:=z++t) (i:=q) (by omega)
  rw [this,List.take_of_length_le (by omega)]
theorem eD {α:Type} (R:List α) (i:Nat) (x:α) (h:i≤R.length):R.insertIdx i x=R.take i++x::R.drop i:=by
  induction R generalizing i with
  | nil => have:i=0:=by simpa using h
           subst this;rfl
  | cons a R ih=>
    cases i with
    | zero=>rfl
    | succ i=>simp only [List.insertIdx_succ_cons,List.take_succ_cons,List.drop_succ_cons,List.cons_append];rw [ih i (by simpa using h)]
theorem df {α β:Type} (f:α→β) (l:List α) (i:Nat):(l.map f).eraseIdx i=(l.eraseIdx i).map f:=by rw [gc,gc,List.map_append,List.map_take,List.map_drop]
theorem dJ {α:Type} (l:List α) (i:Nat) (h:i < l.length):(l.eraseIdx i).length=l.length - 1:=List.length_eraseIdx_of_lt h
theorem sK {α β:Type} (f:α→β) (l:List α) (i:Nat) (h:i < l.length):((l.eraseIdx i).map f).take (l.length - 1)=(l.eraseIdx i).map f:=List.take_of_length_le (by rw [List.length_map,dJ _ _ h];omega)
theorem fX {α:Type} (l:List α) (i:Nat) (x z:α) (h:i≤l.length):(l.insertIdx i x).getD i z=x:=by
  rw [eD _ _ _ h,List.getD_eq_getElem?_getD,List.getElem?_append_right (by rw [List.length_take];omega)]
  have:i - (l.take i).length=0:=by rw [List.length_take];omega
  rw [this];rfl
theorem yA {α β:Type} (f:α→β) (l:List α) (i:Nat) (x:α) (z:β) (h:i≤l.length):((l.insertIdx i x).map f).getD i z=f x:=by
  rw [←jY];exact fX _ _ _ _ (by simpa using h)
theorem KL {α:Type} (l:List α) (i:Nat) (x y:α) (h:i≤l.length):(l.insertIdx i x).set i y=l.insertIdx i y:=by
  rw [eD _ _ _ h,eD _ _ _ h]
  have e:(l.take i).length=i:=by simp;omega
  rw [List.set_append_right _ _ (by omega),e,Nat.sub_self];rfl
theorem eN {α:Type} (l:List α) (i:Nat) (x:α) (h:i≤l.length):(l.insertIdx i x).length=l.length+1:=by rw [eD _ _ _ h];simp;omega
theorem wn {α β:Type} (f:α→β) (l:List α) (i:Nat) (x:α) (h:i≤l.length):((l.insertIdx i x).map f).take (l.length+1)=(l.insertIdx i x).map f:=List.take_of_length_le (by rw [List.length_map,eN _ _ _ h];omega)
theorem eR {α:Type} (l:List α) (i k:Nat) (x z:α) (h:i≤l.length) (hk:k < i):(l.insertIdx i x).getD k z=l.getD k z:=by
  rw [eD _ _ _ h,List.getD_eq_getElem?_getD,List.getElem?_append_left (by rw [List.length_take];omega),List.getElem?_take_of_lt hk,List.getD_eq_getElem?_getD]
theorem tn {α β:Type} (f:α→β) (l:List α) (x:α):(List.map f (l++[x])).take (l.length+1)=List.map f (l++[x]):=List.take_of_length_le (by simp)
theorem jJ {α:Type} {A B:List α} {n:Nat} (h:n=A.length):(A++B).take n=A:=by subst h;simp
theorem zz {α:Type} {A B:List α} {n:Nat} (h:n=A.length):(A++B).drop n=B:=by subst h;simp
theorem wS {α:Type} {R J:List α} {i a b:Nat} (h:i≤R.length) (ha:a=R.length - i) (hb:R.length - i≤b):List.take a (List.take b (List.drop i (R++J)))=R.drop i:=by
  rw [List.take_take,Nat.min_eq_left (by omega),List.drop_append_of_le_length h]
  exact jJ (by simp;omega)
theorem vV {α:Type} {R J X:List α} {r:α} {i a b c d:Nat} (h:i < R.length) (ha:a=R.length - i) (hb:R.length - i≤b) (hc:1≤c) (hd:d=1) :
    List.take (R.length+1) (List.take i (List.take (i+1) (R++J)++List.take a (List.take b (List.drop i (R++J)))++X)++List.take c [r]++List.drop (i+d) (List.take (i+1) (R++J)++List.take a (List.take b (List.drop i (R++J)))++X))=R.insertIdx i r:=by
  subst hd
  have e1:List.take (i+1) (R++J)=R.take (i+1):=List.take_append_of_le_length (by omega)
  have e2:(R.take (i+1)).length=i+1:=by simp;omega
  have e3:List.take c [r]=[r]:=List.take_of_length_le (by simpa using hc)
  rw [wS (by omega) ha hb,e1,e3,List.append_assoc (List.take (i+1) R),zz (n:=i+1) e2.symm,eD _ _ _ (by omega)]
  have e4:List.take i (List.take (i+1) R++(List.drop i R++X))=R.take i:=by
    rw [List.take_append_of_le_length (by rw [e2];omega),List.take_take,Nat.min_eq_left (by omega)]
  rw [e4]
  have:List.take i R++[r]++(List.drop i R++X)=(List.take i R++r::List.drop i R)++X:=by simp
  rw [this]
  exact jJ (by simp;omega)
theorem nX {α:Type} {R J:List α} {r z:α} {i m c d e f g:Nat} (h:i < R.length) (hm:m=R.length+1 - i) (hc:1≤c) (hd:d=1) (he:e=R.length - i) (hf:R.length - i≤f) (hg:g=R.length+1) :
    List.take (i+1) (List.take i (List.take i (R++J)++List.replicate m z)++List.take c [r]++List.drop (i+d) (List.take i (R++J)++List.replicate m z))++List.take e (List.take f (List.drop i (R++J))) ++
      List.drop g (List.take i (List.take i (R++J)++List.replicate m z)++List.take c [r]++List.drop (i+d) (List.take i (R++J)++List.replicate m z))=R.insertIdx i r:=by
  subst hd;subst hm;subst hg
  have e1:List.take i (R++J)=R.take i:=List.take_append_of_le_length (by omega)
  have e2:(R.take i).length=i:=by simp;omega
  have e3:List.take c [r]=[r]:=List.take_of_length_le (by simpa using hc)
  rw [wS (by omega) he hf,e1,e3,jJ (n:=i) e2.symm,eD _ _ _ (by omega)]
  have e4:(List.take i R++[r]).length=i+1:=by simp;omega
  have e5:List.drop (R.length+1) (List.take i R++[r]++List.drop (i+1) (List.take i R++List.replicate (R.length+1 - i) z))=[]:=List.drop_eq_nil_of_le (by simp;omega)
  rw [e5,jJ e4.symm,List.append_nil,List.append_assoc];rfl
theorem Ew (rs:List (List DV)) (i:Nat) (hi:i < rs.length) (hb:rs.length*48≤140737488351232):ab Tryz.prog [.rows 3 rs] 261 [.osl 0 3 0 rs.length,I i,I ((i:Int)+1)] (cp (.osl 1 3 0 (rs.length - 1)) [.dead,.rows 3 (rs.eraseIdx i)]):=by
  refine zJ Tryz.func261 Tryz.ntmps261 Tryz.results261 ?_;simp only [go_sem]
  refine AWP.reveal 0 (k:=0) (sz:=3) (off:=0) (n:=rs.length) rfl (by omega) rfl (by decide) fun junk hj hjl=>?_
  simp only [go_sem,Nat.zero_add] at hjl ⊢
  by_cases hN:i+1 < rs.length+junk.length
  · (refine zW qw zn (zx @if_pos.{1} (zx @if_neg.{1} (zx @dh (zx @di (zx @List.length_take.{0} (zx @List.length_drop.{0} @Nat.min_eq_left)))))) (z1 ?_)<;>(repeat with_reducible intro hc))
    refine bo (by first | exact .inl rfl | exact .inr rfl) (by simp (disch:=omega) only [go_sem]) ?_
    simp (disch:=omega) only [go_sem]
    rw [show i+(rs.length - (i+1))=rs.length - 1 from by omega]
    refine ag.moved rfl (ag.done rfl ?_)
    rw [ng hi rfl rfl];rfl
  · (refine zW qw zn (zx @if_pos.{1} (zx @if_neg.{1} (zx @dh (zx @di (zx @List.length_take.{0} (zx @List.length_drop.{0} @Nat.min_eq_left)))))) (z1 ?_)<;>(repeat with_reducible intro hc))
    refine bo (by first | exact .inl rfl | exact .inr rfl) (by simp (disch:=omega) only [go_sem]) ?_
    simp (disch:=omega) only [go_sem]
    rw [show i+0=rs.length - 1 from by omega]
    refine ag.moved rfl (ag.done rfl ?_)
    rw [ny (by omega) (by omega)];rfl
set_option maxHeartbeats 1000000 in
theorem Dd (rs:List (List DV)) (r:List DV) (i:Nat) (hi:i≤rs.length) (hb:(rs.length+1)*48≤140737488351232) :
    ab Tryz.prog [.rows 3 rs,.rows 3 [r]] 139 [.osl 0 3 0 rs.length,I i,.osl 1 3 0 1] (cp (.osl 2 3 0 (rs.length+1)) [.dead,.dead,.rows 3 (rs.insertIdx i r)]):=by
  refine zJ Tryz.func139 Tryz.ntmps139 Tryz.results139 ?_;simp only [go_sem]
  by_cases hin:i=rs.length
  · subst hin
    (refine zW qw zn (zx @if_pos.{1} (zx @if_neg.{1} (zx @dh @di))) (z1 ?_)<;>(repeat with_reducible intro hc))
    refine bo (by first | exact .inl rfl | exact .inr rfl) (by simp (disch:=omega) only [go_sem]) ?_
    simp (disch:=omega) only [go_sem]
    refine ag.framed [0,1,2] rfl (by simp) (by decide) (by intro k hk;match k,hk with | 0,_=>rfl | 1,_=>rfl) ⟨rfl,by simp [inV]⟩ ?_ (ag.done (hp:=[.dead,.dead,.rows 3 (List.take rs.length rs++[r])]) rfl ?_)
    · simp only [go_sem]
    · rw [eD _ _ _ (Nat.le_refl _),List.drop_length]
  refine AWP.reveal 0 (k:=0) (sz:=3) (off:=0) (n:=rs.length) rfl (by omega) rfl (by decide) fun junk hj hjl=>?_
  simp only [go_sem,Nat.zero_add] at hjl ⊢
  by_cases hN:rs.length+1≤rs.length+junk.length
  · (repeat' first
  | (with_reducible refine AR.f ?_)
  | refine ap (by decide) ?_
  | (with_reducible refine AWP.cond rfl ?_ ?_<;>intro hc<;>(try simp only [hcs,beq_iff_eq,ge_iff_le,gt_iff_lt] at hc))
  | ((first | ((first | (with_reducible first | refine zR ?_ | refine zQ (by decide +kernel) ?_ | refine zD (by decide +kernel) ?_ | refine zE (by decide +kernel) ?_ | refine zG (by decide +kernel) ?_));intro K hK) | refine acallHK_ext (ext_overlaps Tryz.func200 (by kernel_rfl) (by kernel_rfl) (by kernel_rfl) (tS:=44) (tR:=4) (e:=102) (by kernel_rfl) bF (by simp only [NC,JE]) (by simp [KW,BU]) (k:=1) (k':=0) rfl (.inl ⟨rfl,rfl⟩) rfl (.inr ⟨rfl,rfl⟩) (by decide) (by omega) (by omega) (by decide)) ?_ | ((first | (with_reducible refine aunder_i ?_ ?_<;>intro hg) | with_reducible intro hg)<;>(first | (exfalso;simp at hg;done) | (have hg':=hg;(try simp only [hcs,beq_iff_eq,ge_iff_le,gt_iff_lt] at hg');(try simp only [hg])))))<;>(try simp (disch:=omega) only [go_sem,aa,if_pos,if_neg,dh,di,List.length_take,List.length_drop,Nat.min_eq_left])<;>(repeat' with_reducible refine And.intro ?_ ?_)<;>(try (with_reducible refine hK _ ?_;clear hK K)))
  | omega)
    refine bo (by first | exact .inl rfl | exact .inr rfl) (by simp (disch:=omega) only [go_sem]) ?_
    simp (disch:=omega) only [go_sem]
    refine ag.moved rfl ?_
    refine ag.framed [0,1,2] rfl (by simp) (by decide) (by intro k hk;match k,hk with | 0,_=>rfl | 1,_=>rfl) ⟨rfl,by simp [inV]⟩ ?_ (ag.done (hp:=[.dead,.dead,.rows 3 (rs.insertIdx i r)]) rfl rfl)
    rw [vV (by omega) (by omega) (by omega) (by omega) (by omega)]
    simp only [go_sem]
  · (refine zW qw zn (zx @if_pos.{1} (zx @if_neg.{1} (zx @dh (zx @di (zx @vz (zx @vY (zx @List.length_take.{0} (zx @List.length_drop.{0} @Nat.min_eq_left)))))))) (z1 ?_)<;>(repeat with_reducible intro hc))
    refine bo (by first | exact .inl rfl | exact .inr rfl) (by simp (disch:=omega) only [go_sem]) ?_
    simp (disch:=omega) only [go_sem]
    rw [nX (by omega) rfl (by omega) (by omega) (by omega) (by omega) (by omega),show i+(rs.length+1 - i)=rs.length+1 from by omega]
    refine ag.framed [0,1,2] rfl (by simp) (by decide) (by intro k hk;match k,hk with | 0,_=>rfl | 1,_=>rfl) ⟨rfl,by simp [inV]⟩ ?_ (ag.done (hp:=[.dead,.dead,.rows 3 (rs.insertIdx i r)]) rfl rfl)
    simp only [go_sem]
theorem A5 (rs:List (List DV)) (i:Nat) (hi:i < rs.length) (hb:rs.length*40≤140737488351232):ab Tryz.prog [.rows 3 rs] 243 [.osl 0 3 0 rs.length,I i,I ((i:Int)+1)] (cp (.osl 1 3 0 (rs.length - 1)) [.dead,.rows 3 (rs.eraseIdx i)]):=by
  refine zJ Tryz.func243 Tryz.ntmps243 Tryz.results243 ?_;simp only [go_sem]
  refine AWP.reveal 0 (k:=0) (sz:=3) (off:=0) (n:=rs.length) rfl (by omega) rfl (by decide) fun junk hj hjl=>?_
  simp only [go_sem,Nat.zero_add] at hjl ⊢
  by_cases hN:i+1 < rs.length+junk.length
  · (refine zW qw zn (zx @if_pos.{1} (zx @if_neg.{1} (zx @dh (zx @di (zx @List.length_take.{0} (zx @List.length_drop.{0} @Nat.min_eq_left)))))) (z1 ?_)<;>(repeat with_reducible intro hc))
    refine bo (by first | exact .inl rfl | exact .inr rfl) (by simp (disch:=omega) only [go_sem]) ?_
    simp (disch:=omega) only [go_sem]
    rw [show i+(rs.length - (i+1))=rs.length - 1 from by omega]
    refine ag.moved rfl (ag.done rfl ?_)
    rw [ng hi rfl rfl];rfl
  · (refine zW qw zn (zx @if_pos.{1} (zx @if_neg.{1} (zx @dh (zx @di (zx @List.length_take.{0} (zx @List.length_drop.{0} @Nat.min_eq_left)))))) (z1 ?_)<;>(repeat with_reducible intro hc))
    refine bo (by first | exact .inl rfl | exact .inr rfl) (by simp (disch:=omega) only [go_sem]) ?_
    simp (disch:=omega) only [go_sem]
    rw [show i+0=rs.length - 1 from by omega]
    refine ag.moved rfl (ag.done rfl ?_)
    rw [ny (by omega) (by omega)];rfl
set_option maxHeartbeats 1000000 in
theorem rD (rs:List (List DV)) (r:List DV) (i:Nat) (hi:i≤rs.length) (hb:(rs.length+1)*40≤140737488351232) :
    ab Tryz.prog [.rows 3 rs,.rows 3 [r]] 181 [.osl 0 3 0 rs.length,I i,.osl 1 3 0 1] (cp (.osl 2 3 0 (rs.length+1)) [.dead,.dead,.rows 3 (rs.insertIdx i r)]):=by
  refine zJ Tryz.func181 Tryz.ntmps181 Tryz.results181 ?_;simp only [go_sem]
  by_cases hin:i=rs.length
  · subst hin
    (refine zW qw zn (zx @if_pos.{1} (zx @if_neg.{1} (zx @dh @di))) (z1 ?_)<;>(repeat with_reducible intro hc))
    refine bo (by first | exact .inl rfl | exact .inr rfl) (by simp (disch:=omega) only [go_sem]) ?_
    simp (disch:=omega) only [go_sem]
    refine ag.framed [0,1,2] rfl (by simp) (by decide) (by intro k hk;match k,hk with | 0,_=>rfl | 1,_=>rfl) ⟨rfl,by simp [inV]⟩ ?_ (ag.done (hp:=[.dead,.dead,.rows 3 (List.take rs.length rs++[r])]) rfl ?_)
    · simp only [go_sem]
    · rw [eD _ _ _ (Nat.le_refl _),List.drop_length]
  refine AWP.reveal 0 (k:=0) (sz:=3) (off:=0) (n:=rs.length) rfl (by omega) rfl (by decide) fun junk hj hjl=>?_
  simp only [go_sem,Nat.zero_add] at hjl ⊢
  by_cases hN:rs.length+1≤rs.length+junk.length
  · (repeat' first
  | (with_reducible refine AR.f ?_)
  | refine ap (by decide) ?_
  | (with_reducible refine AWP.cond rfl ?_ ?_<;>intro hc<;>(try simp only [hcs,beq_iff_eq,ge_iff_le,gt_iff_lt] at hc))
  | ((first | ((first | (with_reducible first | refine zR ?_ | refine zQ (by decide +kernel) ?_ | refine zD (by decide +kernel) ?_ | refine zE (by decide +kernel) ?_ | refine zG (by decide +kernel) ?_));intro K hK) | refine acallHK_ext (ext_overlaps Tryz.func234 (by kernel_rfl) (by kernel_rfl) (by kernel_rfl) (tS:=58) (tR:=4) (e:=107) (by kernel_rfl) bF (by simp only [NF,Jn]) (by simp [K6,B5]) (k:=1) (k':=0) rfl (.inl ⟨rfl,rfl⟩) rfl (.inr ⟨rfl,rfl⟩) (by decide) (by omega) (by omega) (by decide)) ?_ | ((first | (with_reducible refine aunder_i ?_ ?_<;>intro hg) | with_reducible intro hg)<;>(first | (exfalso;simp at hg;done) | (have hg':=hg;(try simp only [hcs,beq_iff_eq,ge_iff_le,gt_iff_lt] at hg');(try simp only [hg])))))<;>(try simp (disch:=omega) only [go_sem,aa,if_pos,if_neg,dh,di,List.length_take,List.length_drop,Nat.min_eq_left])<;>(repeat' with_reducible refine And.intro ?_ ?_)<;>(try (with_reducible refine hK _ ?_;clear hK K)))
  | omega)
    refine bo (by first | exact .inl rfl | exact .inr rfl) (by simp (disch:=omega) only [go_sem]) ?_
    simp (disch:=omega) only [go_sem]
    refine ag.moved rfl ?_
    refine ag.framed [0,1,2] rfl (by simp) (by decide) (by intro k hk;match k,hk with | 0,_=>rfl | 1,_=>rfl) ⟨rfl,by simp [inV]⟩ ?_ (ag.done (hp:=[.dead,.dead,.rows 3 (rs.insertIdx i r)]) rfl rfl)
    rw [vV (by omega) (by omega) (by omega) (by omega) (by omega)]
    simp only [go_sem]
  · (refine zW qw zn (zx @if_pos.{1} (zx @if_neg.{1} (zx @dh (zx @di (zx @vz (zx @vY (zx @List.length_take.{0} (zx @List.length_drop.{0} @Nat.min_eq_left)))))))) (z1 ?_)<;>(repeat with_reducible intro hc))
    refine bo (by first | exact .inl rfl | exact .inr rfl) (by simp (disch:=omega) only [go_sem]) ?_
    simp (disch:=omega) only [go_sem]
    rw [nX (by omega) rfl (by omega) (by omega) (by omega) (by omega) (by omega),show i+(rs.length+1 - i)=rs.length+1 from by omega]
    refine ag.framed [0,1,2] rfl (by simp) (by decide) (by intro k hk;match k,hk with | 0,_=>rfl | 1,_=>rfl) ⟨rfl,by simp [inV]⟩ ?_ (ag.done (hp:=[.dead,.dead,.rows 3 (rs.insertIdx i r)]) rfl rfl)
    simp only [go_sem]
theorem u5 (rs:List (List DV)) (i:Nat) (hi:i < rs.length) (hb:rs.length*88≤140737488351232):ab Tryz.prog [.rows 9 rs] 127 [.osl 0 9 0 rs.length,I i,I ((i:Int)+1)] (cp (.osl 1 9 0 (rs.length - 1)) [.dead,.rows 9 (rs.eraseIdx i)]):=by
  refine zJ Tryz.func127 Tryz.ntmps127 Tryz.results127 ?_;simp only [go_sem]
  refine AWP.reveal 0 (k:=0) (sz:=9) (off:=0) (n:=rs.length) rfl (by omega) rfl (by decide) fun junk hj hjl=>?_
  simp only [go_sem,Nat.zero_add] at hjl ⊢
  by_cases hN:i+1 < rs.length+junk.length
  · (refine zW qw zn (zx @if_pos.{1} (zx @if_neg.{1} (zx @dh (zx @di (zx @List.length_take.{0} (zx @List.length_drop.{0} @Nat.min_eq_left)))))) (z1 ?_)<;>(repeat with_reducible intro hc))
    refine bo (by first | exact .inl rfl | exact .inr rfl) (by simp (disch:=omega) only [go_sem]) ?_
    simp (disch:=omega) only [go_sem]
    rw [show i+(rs.length - (i+1))=rs.length - 1 from by omega]
    refine ag.moved rfl (ag.done rfl ?_)
    rw [ng hi rfl rfl];rfl
  · (refine zW qw zn (zx @if_pos.{1} (zx @if_neg.{1} (zx @dh (zx @di (zx @List.length_take.{0} (zx @List.length_drop.{0} @Nat.min_eq_left)))))) (z1 ?_)<;>(repeat with_reducible intro hc))
    refine bo (by first | exact .inl rfl | exact .inr rfl) (by simp (disch:=omega) only [go_sem]) ?_
    simp (disch:=omega) only [go_sem]
    rw [show i+0=rs.length - 1 from by omega]
    refine ag.moved rfl (ag.done rfl ?_)
    rw [ny (by omega) (by omega)];rfl
set_option maxHeartbeats 1000000 in
theorem Di (rs:List (List DV)) (r:List DV) (i:Nat) (hi:i≤rs.length) (hb:(rs.length+1)*88≤140737488351232) :
    ab Tryz.prog [.rows 9 rs,.rows 9 [r]] 129 [.osl 0 9 0 rs.length,I i,.osl 1 9 0 1] (cp (.osl 2 9 0 (rs.length+1)) [.dead,.dead,.rows 9 (rs.insertIdx i r)]):=by
  refine zJ Tryz.func129 Tryz.ntmps129 Tryz.results129 ?_;simp only [go_sem]
  by_cases hin:i=rs.length
  · subst hin
    (refine zW qw zn (zx @if_pos.{1} (zx @if_neg.{1} (zx @dh @di))) (z1 ?_)<;>(repeat with_reducible intro hc))
    refine bo (by first | exact .inl rfl | exact .inr rfl) (by simp (disch:=omega) only [go_sem]) ?_
    simp (disch:=omega) only [go_sem]
    refine ag.framed [0,1,2] rfl (by simp) (by decide) (by intro k hk;match k,hk with | 0,_=>rfl | 1,_=>rfl) ⟨rfl,by simp [inV]⟩ ?_ (ag.done (hp:=[.dead,.dead,.rows 9 (List.take rs.length rs++[r])]) rfl ?_)
    · simp only [go_sem]
    · rw [eD _ _ _ (Nat.le_refl _),List.drop_length]
  refine AWP.reveal 0 (k:=0) (sz:=9) (off:=0) (n:=rs.length) rfl (by omega) rfl (by decide) fun junk hj hjl=>?_
  simp only [go_sem,Nat.zero_add] at hjl ⊢
  by_cases hN:rs.length+1≤rs.length+junk.length
  · (repeat' first
  | (with_reducible refine AR.f ?_)
  | refine ap (by decide) ?_
  | (with_reducible refine AWP.cond rfl ?_ ?_<;>intro hc<;>(try simp only [hcs,beq_iff_eq,ge_iff_le,gt_iff_lt] at hc))
  | ((first | ((first | (with_reducible first | refine zR ?_ | refine zQ (by decide +kernel) ?_ | refine zD (by decide +kernel) ?_ | refine zE (by decide +kernel) ?_ | refine zG (by decide +kernel) ?_));intro K hK) | refine acallHK_ext (ext_overlaps Tryz.func191 (by kernel_rfl) (by kernel_rfl) (by kernel_rfl) (tS:=50) (tR:=4) (e:=93) (by kernel_rfl) bF (by simp only [Nm,Kc]) (by simp [NA,JQ]) (k:=1) (k':=0) rfl (.inl ⟨rfl,rfl⟩) rfl (.inr ⟨rfl,rfl⟩) (by decide) (by omega) (by omega) (by decide)) ?_ | ((first | (with_reducible refine aunder_i ?_ ?_<;>intro hg) | with_reducible intro hg)<;>(first | (exfalso;simp at hg;done) | (have hg':=hg;(try simp only [hcs,beq_iff_eq,ge_iff_le,gt_iff_lt] at hg');(try simp only [hg])))))<;>(try simp (disch:=omega) only [go_sem,aa,if_pos,if_neg,dh,di,List.length_take,List.length_drop,Nat.min_eq_left])<;>(repeat' with_reducible refine And.intro ?_ ?_)<;>(try (with_reducible refine hK _ ?_;clear hK K)))
  | omega)
    refine bo (by first | exact .inl rfl | exact .inr rfl) (by simp (disch:=omega) only [go_sem]) ?_
    simp (disch:=omega) only [go_sem]
    refine ag.moved rfl ?_
    refine ag.framed [0,1,2] rfl (by simp) (by decide) (by intro k hk;match k,hk with | 0,_=>rfl | 1,_=>rfl) ⟨rfl,by simp [inV]⟩ ?_ (ag.done (hp:=[.dead,.dead,.rows 9 (rs.insertIdx i r)]) rfl rfl)
    rw [vV (by omega) (by omega) (by omega) (by omega) (by omega)]
    simp only [go_sem]
  · (refine zW qw zn (zx @if_pos.{1} (zx @if_neg.{1} (zx @dh (zx @di (zx @vz (zx @vY (zx @List.length_take.{0} (zx @List.length_drop.{0} @Nat.min_eq_left)))))))) (z1 ?_)<;>(repeat with_reducible intro hc))
    refine bo (by first | exact .inl rfl | exact .inr rfl) (by simp (disch:=omega) only [go_sem]) ?_
    simp (disch:=omega) only [go_sem]
    rw [nX (by omega) rfl (by omega) (by omega) (by omega) (by omega) (by omega),show i+(rs.length+1 - i)=rs.length+1 from by omega]
    refine ag.framed [0,1,2] rfl (by simp) (by decide) (by intro k hk;match k,hk with | 0,_=>rfl | 1,_=>rfl) ⟨rfl,by simp [inV]⟩ ?_ (ag.done (hp:=[.dead,.dead,.rows 9 (rs.insertIdx i r)]) rfl rfl)
    simp only [go_sem]
theorem Ft (rs:List (List DV)) (i:Nat) (hi:i < rs.length) (hb:rs.length*8≤140737488351232):ab Tryz.prog [.rows 1 rs] 71 [.osl 0 1 0 rs.length,I i,I ((i:Int)+1)] (cp (.osl 1 1 0 (rs.length - 1)) [.dead,.rows 1 (rs.eraseIdx i)]):=by
  refine zJ Tryz.func71 Tryz.ntmps71 Tryz.results71 ?_;simp only [go_sem]
  refine AWP.reveal 0 (k:=0) (sz:=1) (off:=0) (n:=rs.length) rfl (by omega) rfl (by decide) fun junk hj hjl=>?_
  simp only [go_sem,Nat.zero_add] at hjl ⊢
  by_cases hN:i+1 < rs.length+junk.length
  · (refine zW qw zn (zx @if_pos.{1} (zx @if_neg.{1} (zx @dh (zx @di (zx @List.length_take.{0} (zx @List.length_drop.{0} @Nat.min_eq_left)))))) (z1 ?_)<;>(repeat with_reducible intro hc))
    refine bo (by first | exact .inl rfl | exact .inr rfl) (by simp (disch:=omega) only [go_sem]) ?_
    simp (disch:=omega) only [go_sem]
    rw [show i+(rs.length - (i+1))=rs.length - 1 from by omega]
    refine ag.moved rfl (ag.done rfl ?_)
    rw [ng hi rfl rfl];rfl
  · (refine zW qw zn (zx @if_pos.{1} (zx @if_neg.{1} (zx @dh (zx @di (zx @List.length_take.{0} (zx @List.length_drop.{0} @Nat.min_eq_left)))))) (z1 ?_)<;>(repeat with_reducible intro hc))
    refine bo (by first | exact .inl rfl | exact .inr rfl) (by simp (disch:=omega) only [go_sem]) ?_
    simp (disch:=omega) only [go_sem]
    rw [show i+0=rs.length - 1 from by omega]
    refine ag.moved rfl (ag.done rfl ?_)
    rw [ny (by omega) (by omega)];rfl
set_option maxHeartbeats 1000000 in
theorem HF (rs:List (List DV)) (r:List DV) (i:Nat) (hi:i≤rs.length) (hb:(rs.length+1)*8≤140737488351232) :
    ab Tryz.prog [.rows 1 rs,.rows 1 [r]] 70 [.osl 0 1 0 rs.length,I i,.osl 1 1 0 1] (cp (.osl 2 1 0 (rs.length+1)) [.dead,.dead,.rows 1 (rs.insertIdx i r)]):=by
  refine zJ Tryz.func70 Tryz.ntmps70 Tryz.results70 ?_;simp only [go_sem]
  by_cases hin:i=rs.length
  · subst hin
    (refine zW qw zn (zx @if_pos.{1} (zx @if_neg.{1} (zx @dh @di))) (z1 ?_)<;>(repeat with_reducible intro hc))
    refine bo (by first | exact .inl rfl | exact .inr rfl) (by simp (disch:=omega) only [go_sem]) ?_
    simp (disch:=omega) only [go_sem]
    refine ag.framed [0,1,2] rfl (by simp) (by decide) (by intro k hk;match k,hk with | 0,_=>rfl | 1,_=>rfl) ⟨rfl,by simp [inV]⟩ ?_ (ag.done (hp:=[.dead,.dead,.rows 1 (List.take rs.length rs++[r])]) rfl ?_)
    · simp only [go_sem]
    · rw [eD _ _ _ (Nat.le_refl _),List.drop_length]
  refine AWP.reveal 0 (k:=0) (sz:=1) (off:=0) (n:=rs.length) rfl (by omega) rfl (by decide) fun junk hj hjl=>?_
  simp only [go_sem,Nat.zero_add] at hjl ⊢
  by_cases hN:rs.length+1≤rs.length+junk.length
  · (repeat' first
  | (with_reducible refine AR.f ?_)
  | refine ap (by decide) ?_
  | (with_reducible refine AWP.cond rfl ?_ ?_<;>intro hc<;>(try simp only [hcs,beq_iff_eq,ge_iff_le,gt_iff_lt] at hc))
  | ((first | ((first | (with_reducible first | refine zR ?_ | refine zQ (by decide +kernel) ?_ | refine zD (by decide +kernel) ?_ | refine zE (by decide +kernel) ?_ | refine zG (by decide +kernel) ?_));intro K hK) | refine acallHK_ext (ext_overlaps Tryz.func125 (by kernel_rfl) (by kernel_rfl) (by kernel_rfl) (tS:=51) (tR:=4) (e:=3) (by kernel_rfl) bF (by simp only [NK,Jz]) (by simp [T_3,ty3]) (k:=1) (k':=0) rfl (.inl ⟨rfl,rfl⟩) rfl (.inr ⟨rfl,rfl⟩) (by decide) (by omega) (by omega) (by decide)) ?_ | ((first | (with_reducible refine aunder_i ?_ ?_<;>intro hg) | with_reducible intro hg)<;>(first | (exfalso;simp at hg;done) | (have hg':=hg;(try simp only [hcs,beq_iff_eq,ge_iff_le,gt_iff_lt] at hg');(try simp only [hg])))))<;>(try simp (disch:=omega) only [go_sem,aa,if_pos,if_neg,dh,di,List.length_take,List.length_drop,Nat.min_eq_left])<;>(repeat' with_reducible refine And.intro ?_ ?_)<;>(try (with_reducible refine hK _ ?_;clear hK K)))
  | omega)
    refine bo (by first | exact .inl rfl | exact .inr rfl) (by simp (disch:=omega) only [go_sem]) ?_
    simp (disch:=omega) only [go_sem]
    refine ag.moved rfl ?_
    refine ag.framed [0,1,2] rfl (by simp) (by decide) (by intro k hk;match k,hk with | 0,_=>rfl | 1,_=>rfl) ⟨rfl,by simp [inV]⟩ ?_ (ag.done (hp:=[.dead,.dead,.rows 1 (rs.insertIdx i r)]) rfl rfl)
    rw [vV (by omega) (by omega) (by omega) (by omega) (by omega)]
    simp only [go_sem]
  · (refine zW qw zn (zx @if_pos.{1} (zx @if_neg.{1} (zx @dh (zx @di (zx @vz (zx @vY (zx @List.length_take.{0} (zx @List.length_drop.{0} @Nat.min_eq_left)))))))) (z1 ?_)<;>(repeat with_reducible intro hc))
    refine bo (by first | exact .inl rfl | exact .inr rfl) (by simp (disch:=omega) only [go_sem]) ?_
    simp (disch:=omega) only [go_sem]
    rw [nX (by omega) rfl (by omega) (by omega) (by omega) (by omega) (by omega),show i+(rs.length+1 - i)=rs.length+1 from by omega]
    refine ag.framed [0,1,2] rfl (by simp) (by decide) (by intro k hk;match k,hk with | 0,_=>rfl | 1,_=>rfl) ⟨rfl,by simp [inV]⟩ ?_ (ag.done (hp:=[.dead,.dead,.rows 1 (rs.insertIdx i r)]) rfl rfl)
    simp only [go_sem]
attribute [go_sem] Tryz.ntmps141 Tryz.results141 Tryz.ntmps142 Tryz.results142 Tryz.ntmps210 Tryz.results210 Tryz.ntmps211 Tryz.results211 Tryz.ntmps255 Tryz.results255 Tryz.ntmps258 Tryz.results258
def AF (f:AFile):Prop:=ba f.name=true∧f.safe.length+f.tail.length≤1048576
instance (f:AFile):Decidable (AF f):=by unfold AF;infer_instance
def xg (l:List AFile) (k:Nat):Prop:=AF (l.getD k default)∧(0 < k→(l.getD (k - 1) default).name < (l.getD k default).name)
instance (l:List AFile) (k:Nat):Decidable (xg l k):=by unfold xg;infer_instance
def bE (l:List AFile):Bool:=decide (l.length≤16∧∀ k,k < l.length→xg l k)
theorem dq {l:List AFile} (h:bE l=true):aU (l.map AFile.name):=by
  intro k hk
  unfold bE at h;rw [decide_eq_true_eq] at h
  have:=(h.2 (k+1) (by simpa using hk)).2 (by omega)
  have e:∀ j,(l.map AFile.name).getD j []=(l.getD j default).name:=fun j=>fY AFile.name l j default
  rw [e,e]
  simpa using this
theorem wx (n:Nat):((n:Int) - 1).toNat=n - 1:=by omega
theorem iE {l:List AFile} (h:∀ f,f∈l→f.wf) (k:Nat):okS (l.getD k default).name∧(l.getD k default).name.length≤140737488351232∧(l.getD k default).safe.length≤140737488351232∧(l.getD k default).tail.length≤140737488351232:=by
  by_cases e:k < l.length
  · have:=h _ (bW l k e)
    exact ⟨this.1,this.1,this.2.1,this.2.2⟩
  · rw [List.getD_eq_getElem?_getD,List.getElem?_eq_none (by omega)];exact ⟨show okS [] by unfold okS;decide,by decide,by decide,by decide⟩
theorem good_d_c (d:ADisk) (h:d.files.length*48≤140737488351232) (hw:∀ f,f∈d.files→f.wf):ab Tryz.prog [] 36 [d.av] (ret (B (bE d.files))):=by
  refine zJ Tryz.func36 Tryz.ntmps36 Tryz.results36 ?_;simp only [go_sem]
  (refine zW qw zn trivial (z2 ?_ ?_)<;>(repeat with_reducible intro hc))
  · (refine zE2 trivial ?_;(try simp (disch:=omega) only [go_sem,aa,I,B,S,zj]))
    unfold bE;symm;rw [decide_eq_false_iff_not];rintro ⟨a,-⟩;omega
  refine AWP.loopS (ι:=Nat) (fun k=>k≤d.files.length∧∀ j,j < k→xg d.files j) (fun k=>d.files.length - k) [1,10,11] (fun k=>[(12,I k)]) 0 ?_ (by simp (disch:=omega) only [go_sem,aa,true_and]) ?_
  · exact ⟨by omega,by omega⟩
  intro k ⟨hk,hk2⟩
  obtain ⟨w0,w1,w2,w3⟩:=iE hw k
  simp only [go_sem]
  (refine zW qw (z1 (gC _ w0)) (zx @wx @lc) (z3 ?_ ?_ ?_)<;>(repeat with_reducible intro hc))
  · (refine zE2 trivial ?_;(try simp (disch:=omega) only [go_sem,aa,I,B,S,zj]))
    unfold bE;symm;rw [decide_eq_false_iff_not];rintro ⟨-,a⟩
    have a1:=a k (by assumption)
    rcases hc with (c | c) | c
    · rw [a1.1.1] at c;exact absurd c (by simp)
    · exact absurd (a1.2 (by omega)) (by simpa using c.2)
    · have:=a1.1.2;omega
  · refine ⟨k+1,⟨by omega,fun j hj=>?_⟩,by omega,?_⟩
    · by_cases e:j=k
      · subst e
        exact ⟨⟨hc.1.1,by omega⟩,fun h0=>(hc.1.2.resolve_left (by omega))⟩
      · exact hk2 j (by omega)
    exact zFr [0] trivial
  · (refine zE2 trivial ?_;(try simp (disch:=omega) only [go_sem,aa,I,B,S,zj]))
    unfold bE;symm;rw [decide_eq_true_eq];exact ⟨by omega,fun j hj=>hk2 j (by omega)⟩
theorem find_c (d:ADisk) (key:List UInt8) (h:d.files.length*48≤140737488351232) (hr:bE d.files=true) :
    ab Tryz.prog [] 137 [d.av,S key] (ret (.tup [I (place (d.files.map AFile.name) key),B (decide (key∈d.files.map AFile.name))])):=by
  refine zJ Tryz.func137 Tryz.ntmps137 Tryz.results137 ?_;simp only [go_sem]
  (refine zW qw (z1 (EH _ key h (dq hr))) trivial (z1 ?_)<;>(repeat with_reducible intro hc))
  exact zEe trivial
theorem xb (l:List AFile) (h:l.length*48≤140737488351232):ab Tryz.prog [] 199 [.d (.sl 3 (l.map AFile.row))] (own 3 (l.map AFile.row)):=by
  refine zJ Tryz.func199 Tryz.ntmps199 Tryz.results199 ?_;simp only [go_sem]
  (repeat' first
| (with_reducible refine AR.f ?_)
| refine ap (by decide) ?_
| (with_reducible refine AWP.cond rfl ?_ ?_<;>intro hc<;>(try simp only [hcs,beq_iff_eq,ge_iff_le,gt_iff_lt] at hc))
| ((first | ((first | (with_reducible first | refine zR ?_ | refine zQ (by decide +kernel) ?_ | refine zD (by decide +kernel) ?_ | refine zE (by decide +kernel) ?_ | refine zG (by decide +kernel) ?_));intro K hK) | ((first | (with_reducible refine aunder_i ?_ ?_<;>intro hg) | with_reducible intro hg)<;>(first | (exfalso;simp at hg;done) | (have hg':=hg;(try simp only [hcs,beq_iff_eq,ge_iff_le,gt_iff_lt] at hg');(try simp only [hg])))))<;>(try simp (disch:=omega) only [go_sem,aa])<;>(repeat' with_reducible refine And.intro ?_ ?_)<;>(try (with_reducible refine hK _ ?_;clear hK K)))
| omega)
  · have e:l.length=0:=by
      rcases Nat.eq_zero_or_pos l.length with h0 | h0
      · exact h0
      · rw [hg h0] at hc;simp at hc
    rw [fO e]
    (refine kV (by first | exact .inl rfl | exact .inr rfl) rfl ?_ ?_<;>simp (disch:=omega) only [go_sem,aa])
  · (refine kT 1 (by first | exact .inl rfl | exact .inr rfl) rfl ?_ rfl rfl ?_<;>(try simp (disch:=omega) only [go_sem,aa,List.length_map]))
theorem du (d:ADisk) (h:d.files.length*48≤140737488351232):ab Tryz.prog [] 138 [d.av] (cp (.agg [.osl 0 3 0 d.files.length]) [.rows 3 (d.files.map AFile.row)]):=by
  refine zJ Tryz.func138 Tryz.ntmps138 Tryz.results138 ?_;simp only [go_sem]
  (refine zW qw (z1 (xb _ h)) trivial (z1 ?_)<;>(repeat with_reducible intro hc))
  (refine zO ?_ ?_;(focus ((try simp (disch:=omega) only [go_sem,aa])<;>fail));simp (disch:=omega) only [go_sem,aa];refine ag.of_simp ?_ (ag.same ⟨rfl,rfl⟩);refine zV [2] rfl rfl rfl rfl ?_ ?_<;>simp (disch:=omega) only [go_sem,aa,true_or,or_true])
def readD (l:List AFile) (key:List UInt8):List UInt8×Int:=
  if bE l=false then ([],3) else if key∈l.map AFile.name then ((l.getD (place (l.map AFile.name) key) default).safe++(l.getD (place (l.map AFile.name) key) default).tail,0) else ([],7)
theorem EB (d:ADisk) (key:List UInt8) (h:d.files.length*48≤140737488351232) (hw:∀ f,f∈d.files→f.wf):ab Tryz.prog [] 82 [d.av,S key] (ret (.tup [S (readD d.files key).1,I (readD d.files key).2])):=by
  obtain ⟨w0,w1,w2,w3⟩:=iE hw (place (d.files.map AFile.name) key)
  refine zJ Tryz.func82 Tryz.ntmps82 Tryz.results82 ?_;simp only [go_sem]
  (repeat' first
| (with_reducible refine AR.f ?_)
| refine ap (by decide) ?_
| (with_reducible refine AWP.cond rfl ?_ ?_<;>intro hc<;>(try simp only [hcs,beq_iff_eq,ge_iff_le,gt_iff_lt] at hc))
| ((first | ((first | (with_reducible first | refine zR ?_ | refine zQ (by decide +kernel) ?_ | refine zD (by decide +kernel) ?_ | refine zE (by decide +kernel) ?_ | refine zG (by decide +kernel) ?_));intro K hK) | ((first | refine zA (good_d_c d h hw) ?_ ?_ ?_ ?_ ?_ | refine zA (find_c d key h (by assumption)) ?_ ?_ ?_ ?_ ?_);(focus exact rfl);(focus exact rfl);iterate 2 (focus ((try simp (disch:=omega) only [go_sem,aa])<;>(try omega)<;>fail))) | ((first | refine zN (find_c d key h (by assumption)) rfl ?_ ?_ | refine zX (good_d_c d h hw) rfl ?_ ?_);(focus ((try simp (disch:=omega) only [go_sem,aa])<;>(try omega)<;>fail))) | ((first | refine zX (find_c d key h (by assumption)) rfl ?_ ?_ | refine zY (find_c d key h (by assumption)) ?_ ?_);(focus ((try simp (disch:=omega) only [go_sem,aa])<;>(try omega)<;>fail))) | ((first | (with_reducible refine aunder_i ?_ ?_<;>intro hg) | with_reducible intro hg)<;>(first | (exfalso;simp at hg;done) | (have hg':=hg;(try simp only [hcs,beq_iff_eq,ge_iff_le,gt_iff_lt] at hg');(try simp only [hg])))))<;>(try simp (disch:=omega) only [go_sem,aa])<;>(repeat' with_reducible refine And.intro ?_ ?_)<;>(try (with_reducible refine hK _ ?_;clear hK K)))
| omega)
  all_goals (try unfold readD)
  · rw [if_pos hc];exact zEe trivial
  · rw [if_neg (by simp [*]),if_neg hc];exact zEe trivial
  · have:=(ao (dq (by assumption)) hc).1;simp at this;omega
  · have:=(ao (dq (by assumption)) hc).1;simp at this;omega
  · rw [if_neg (by simp [*]),if_pos hc];exact zEe trivial
def bj (l:List AFile) (key:List UInt8) (F:AFile→AFile×Int):ADisk×Int:=
  if bE l=false then (default,3) else if key∈l.map AFile.name then
    (if (F (l.getD (place (l.map AFile.name) key) default)).2=0 then (⟨l.set (place (l.map AFile.name) key) (F (l.getD (place (l.map AFile.name) key) default)).1⟩,0) else (default,(F (l.getD (place (l.map AFile.name) key) default)).2)) else (default,7)
def oq (f:AFile):AFile×Int:=(⟨f.name,f.safe++f.tail,[]⟩,0)
def m5 (n:Int) (f:AFile):AFile×Int:=if n < 0∨(f.safe.length:Int)+f.tail.length < n then (default,3) else (⟨f.name,(f.safe++f.tail).take n.toNat,[]⟩,0)
theorem mB {l:List AFile} {key:List UInt8} {F:AFile→AFile×Int} (h:¬ bE l=true):bj l key F=(default,3):=by unfold bj;rw [if_pos (by simpa using h)]
theorem kS {l:List AFile} {key:List UInt8} {F:AFile→AFile×Int} (h:bE l=true) (h2:¬ key∈l.map AFile.name):bj l key F=(default,7):=by unfold bj;rw [if_neg (by simp [h]),if_neg h2]
theorem Bm {l:List AFile} {key:List UInt8} {F:AFile→AFile×Int} (h:bE l=true) (h2:key∈l.map AFile.name) (h3:¬ (F (l.getD (place (l.map AFile.name) key) default)).2=0) :
    bj l key F=(default,(F (l.getD (place (l.map AFile.name) key) default)).2):=by unfold bj;rw [if_neg (by simp [h]),if_pos h2,if_neg h3]
theorem gM {l:List AFile} {key:List UInt8} {F:AFile→AFile×Int} (h:bE l=true) (h2:key∈l.map AFile.name) (h3:(F (l.getD (place (l.map AFile.name) key) default)).2=0) :
    bj l key F=(⟨l.set (place (l.map AFile.name) key) (F (l.getD (place (l.map AFile.name) key) default)).1⟩,0):=by unfold bj;rw [if_neg (by simp [h]),if_pos h2,if_pos h3]
theorem gb {l:List AFile} {key:List UInt8} (h:bE l=true) (h2:key∈l.map AFile.name):place (l.map AFile.name) key < l.length:=by
  have:=(ao (dq h) h2).1;simpa using this
theorem Fs (d:ADisk) (key:List UInt8) (h:d.files.length*48≤140737488351232) (hw:∀ f,f∈d.files→f.wf):ab Tryz.prog [] 229 [d.av,S key] (ret (.tup [(bj d.files key oq).1.av,I (bj d.files key oq).2])):=by
  obtain ⟨w0,w1,w2,w3⟩:=iE hw (place (d.files.map AFile.name) key)
  by_cases hg:bE d.files=true
  · by_cases hm:key∈d.files.map AFile.name
    · have hpl:=gb hg hm
      rw [gM hg hm rfl]
      refine zJ Tryz.func229 Tryz.ntmps229 Tryz.results229 ?_;simp only [go_sem]
      (refine zW qw (zc ((good_d_c d h hw).re (by rw [hg])) (z4 ((find_c d key h hg).re (by rw [decide_eq_true hm])) (du d h) (ic Tryz.func141) (ic Tryz.func258))) (zx @AFile.rgetD (zx @bK (zx @AFile.rset (zx @aO @List.set_set.{0})))) (z1 ?_)<;>(repeat with_reducible intro hc))
      (refine zE2 @dv ?_;(try simp (disch:=omega) only [go_sem,aa,dv,I,B,S,zj]))
      exact .inl rfl
    · rw [kS hg hm]
      refine zJ Tryz.func229 Tryz.ntmps229 Tryz.results229 ?_;simp only [go_sem]
      (refine zW qw (z4 ((good_d_c d h hw).re (by rw [hg])) ((find_c d key h hg).re (by rw [decide_eq_false hm])) (ic Tryz.func141) (ic Tryz.func258)) trivial (z1 ?_)<;>(repeat with_reducible intro hc))
      exact zEe dfl
  · rw [mB hg]
    rw [Bool.not_eq_true] at hg
    refine zJ Tryz.func229 Tryz.ntmps229 Tryz.results229 ?_;simp only [go_sem]
    (refine zW qw (z3 ((good_d_c d h hw).re (by rw [hg])) (ic Tryz.func141) (ic Tryz.func258)) trivial (z1 ?_)<;>(repeat with_reducible intro hc))
    exact zEe dfl
theorem KX (d:ADisk) (key:List UInt8) (n:Int) (h:d.files.length*48≤140737488351232) (hw:∀ f,f∈d.files→f.wf):ab Tryz.prog [] 85 [d.av,S key,I n] (ret (.tup [(bj d.files key (m5 n)).1.av,I (bj d.files key (m5 n)).2])):=by
  obtain ⟨w0,w1,w2,w3⟩:=iE hw (place (d.files.map AFile.name) key)
  by_cases hg:bE d.files=true
  · by_cases hm:key∈d.files.map AFile.name
    · have hpl:=gb hg hm
      by_cases hn:n < 0∨((d.files.getD (place (d.files.map AFile.name) key) default).safe.length:Int)+(d.files.getD (place (d.files.map AFile.name) key) default).tail.length < n
      · have e:m5 n (d.files.getD (place (d.files.map AFile.name) key) default)=(default,3):=by unfold m5;rw [if_pos hn]
        rw [Bm hg hm (by rw [e];decide),e]
        refine zJ Tryz.func85 Tryz.ntmps85 Tryz.results85 ?_;simp only [go_sem]
        (refine zW qw (zc ((good_d_c d h hw).re (by rw [hg])) (z4 ((find_c d key h hg).re (by rw [decide_eq_true hm])) (du d h) (ic Tryz.func141) (ic Tryz.func142))) (zx @AFile.rgetD (zx @bK (zx @AFile.rset (zx @aO @List.set_set.{0})))) (z1 ?_)<;>(repeat with_reducible intro hc))
        all_goals first | omega | skip
        all_goals exact zEe dfl
      · have e:m5 n (d.files.getD (place (d.files.map AFile.name) key) default)=(⟨(d.files.getD (place (d.files.map AFile.name) key) default).name,((d.files.getD (place (d.files.map AFile.name) key) default).safe++(d.files.getD (place (d.files.map AFile.name) key) default).tail).take n.toNat,[]⟩,0):=by unfold m5;rw [if_neg hn]
        rw [gM hg hm (by rw [e]),e]
        refine zJ Tryz.func85 Tryz.ntmps85 Tryz.results85 ?_;simp only [go_sem]
        (refine zW qw (zc ((good_d_c d h hw).re (by rw [hg])) (z4 ((find_c d key h hg).re (by rw [decide_eq_true hm])) (du d h) (ic Tryz.func141) (ic Tryz.func142))) (zx @AFile.rgetD (zx @bK (zx @AFile.rset (zx @aO @List.set_set.{0})))) (z1 ?_)<;>(repeat with_reducible intro hc))
        all_goals first | omega | skip
        (refine zE2 @dv ?_;(try simp (disch:=omega) only [go_sem,aa,dv,I,B,S,zj]))
        exact .inl rfl
    · rw [kS hg hm]
      refine zJ Tryz.func85 Tryz.ntmps85 Tryz.results85 ?_;simp only [go_sem]
      (refine zW qw (z4 ((good_d_c d h hw).re (by rw [hg])) ((find_c d key h hg).re (by rw [decide_eq_false hm])) (ic Tryz.func141) (ic Tryz.func142)) trivial (z1 ?_)<;>(repeat with_reducible intro hc))
      exact zEe dfl
  · rw [mB hg]
    rw [Bool.not_eq_true] at hg
    refine zJ Tryz.func85 Tryz.ntmps85 Tryz.results85 ?_;simp only [go_sem]
    (refine zW qw (z3 ((good_d_c d h hw).re (by rw [hg])) (ic Tryz.func141) (ic Tryz.func142)) trivial (z1 ?_)<;>(repeat with_reducible intro hc))
    exact zEe dfl
def bu (l:List AFile) (key:List UInt8):ADisk×Int:=
  if bE l=false then (default,3) else if key∈l.map AFile.name then (⟨l.eraseIdx (place (l.map AFile.name) key)⟩,0) else (default,7)
theorem EK (d:ADisk) (key:List UInt8) (h:d.files.length*48≤140737488351232) (hw:∀ f,f∈d.files→f.wf):ab Tryz.prog [] 237 [d.av,S key] (ret (.tup [(bu d.files key).1.av,I (bu d.files key).2])):=by
  by_cases hg:bE d.files=true
  · by_cases hm:key∈d.files.map AFile.name
    · have hpl:=gb hg hm
      unfold bu
      rw [if_neg (by simp [hg]),if_pos hm]
      refine zJ Tryz.func237 Tryz.ntmps237 Tryz.results237 ?_;simp only [go_sem]
      (repeat' first
    | (with_reducible refine AR.f ?_)
    | refine ap (by decide) ?_
    | (with_reducible refine AWP.cond rfl ?_ ?_<;>intro hc<;>(try simp only [hcs,beq_iff_eq,ge_iff_le,gt_iff_lt] at hc))
    | ((first | ((first | (with_reducible first | refine zR ?_ | refine zQ (by decide +kernel) ?_ | refine zD (by decide +kernel) ?_ | refine zE (by decide +kernel) ?_ | refine zG (by decide +kernel) ?_));intro K hK) | ((first | refine zA ((good_d_c d h hw).re (by rw [hg])) ?_ ?_ ?_ ?_ ?_ | refine zA ((find_c d key h hg).re (by rw [decide_eq_true hm])) ?_ ?_ ?_ ?_ ?_);(focus exact rfl);(focus exact rfl);iterate 2 (focus ((try simp (disch:=omega) only [go_sem,aa,df])<;>(try omega)<;>fail))) | ((first | refine zN ((find_c d key h hg).re (by rw [decide_eq_true hm])) rfl ?_ ?_ | refine zN (du d h) rfl ?_ ?_ | refine zX ((good_d_c d h hw).re (by rw [hg])) rfl ?_ ?_ | refine zY (du d h) ?_ ?_);(focus ((try simp (disch:=omega) only [go_sem,aa,df])<;>(try omega)<;>fail))) | ((first | refine zX ((find_c d key h hg).re (by rw [decide_eq_true hm])) rfl ?_ ?_ | refine zY ((find_c d key h hg).re (by rw [decide_eq_true hm])) ?_ ?_);(focus ((try simp (disch:=omega) only [go_sem,aa,df])<;>(try omega)<;>fail))) | (refine acallH_own (Ew (d.files.map AFile.row) (place (d.files.map AFile.name) key) (by simpa using hpl) (by simpa using h)) ?_ ?_ ?_;(focus ((try simp (disch:=omega) only [inj,List.cons.injEq,and_self,List.nodup_cons,List.not_mem_nil,List.mem_cons,not_false_eq_true,List.nodup_nil,go_sem,aa,df])<;>(try omega)<;>fail));(focus ((try simp (disch:=omega) only [inj,List.cons.injEq,and_self,List.nodup_cons,List.not_mem_nil,List.mem_cons,not_false_eq_true,List.nodup_nil,go_sem,aa,df])<;>(try omega)<;>(try decide)<;>fail))) | ((first | (with_reducible refine aunder_i ?_ ?_<;>intro hg) | with_reducible intro hg)<;>(first | (exfalso;simp at hg;done) | (have hg':=hg;(try simp only [hcs,beq_iff_eq,ge_iff_le,gt_iff_lt] at hg');(try simp only [hg])))))<;>(try simp (disch:=omega) only [go_sem,aa,df])<;>(repeat' with_reducible refine And.intro ?_ ?_)<;>(try (with_reducible refine hK _ ?_;clear hK K)))
    | omega)
      exact zEe (zx @sK @dJ)
    · unfold bu
      rw [if_neg (by simp [hg]),if_neg hm]
      refine zJ Tryz.func237 Tryz.ntmps237 Tryz.results237 ?_;simp only [go_sem]
      (refine zW qw (z2 ((good_d_c d h hw).re (by rw [hg])) ((find_c d key h hg).re (by rw [decide_eq_false hm]))) trivial (z1 ?_)<;>(repeat with_reducible intro hc))
      exact zEe dfl
  · unfold bu
    rw [if_pos (by simpa using hg)]
    rw [Bool.not_eq_true] at hg
    refine zJ Tryz.func237 Tryz.ntmps237 Tryz.results237 ?_;simp only [go_sem]
    (refine zW qw (z1 ((good_d_c d h hw).re (by rw [hg]))) trivial (z1 ?_)<;>(repeat with_reducible intro hc))
    exact zEe dfl
def crashF (keep:Int) (f:AFile):AFile:=⟨f.name,f.safe++f.tail.take keep.toNat,[]⟩
def fD (l:List AFile) (keep:Int):ADisk×Int:=if bE l=false∨keep < 0 then (default,3) else (⟨l.map (crashF keep)⟩,0)
def crashed (l:List AFile) (keep:Int) (k:Nat):List AFile:=(l.take k).map (crashF keep)++l.drop k
theorem pO (l:List AFile) (keep:Int) (k:Nat):(crashed l keep k).length=l.length:=by unfold crashed;simp;omega
theorem yd (l:List AFile) (keep:Int) (k:Nat) (h:k < l.length):(crashed l keep k).getD k default=l.getD k default:=by
  unfold crashed
  have e:((l.take k).map (crashF keep)).length=k:=by simp;omega
  rw [List.getD_eq_getElem?_getD,List.getElem?_append_right (by omega),e,List.getElem?_drop,List.getD_eq_getElem?_getD,Nat.sub_self,Nat.add_zero]
theorem v7 (l:List AFile) (keep:Int) (k:Nat) (z:List DV) (h:k < l.length):((crashed l keep k).map AFile.row).getD k z=(l.getD k default).row:=by
  rw [AFile.rgetD _ _ _ (by rw [pO];exact h),yd _ _ _ h]
theorem wD (l:List AFile) (keep:Int) (k:Nat) (h:k < l.length):(crashed l keep k).set k (crashF keep (l.getD k default))=crashed l keep (k+1):=by
  unfold crashed
  have e:((l.take k).map (crashF keep)).length=k:=by simp;omega
  rw [List.set_append_right _ _ (by omega),e,Nat.sub_self,cG l k h,List.map_append,List.append_assoc]
  congr 1
  rw [List.drop_eq_getElem_cons h]
  rfl
theorem Iz (l:List UInt8) (keep:Int) (h:0≤keep):l.take (if (l.length:Int) < keep then (l.length:Int) else keep).toNat=l.take keep.toNat:=by
  split
  · rw [Int.toNat_natCast,List.take_length,List.take_of_length_le (by omega)]
  · rfl
theorem KJ (d:ADisk) (keep:Int) (h:d.files.length*48≤140737488351232) (hw:∀ f,f∈d.files→f.wf):ab Tryz.prog [] 188 [d.av,I keep] (ret (.tup [(fD d.files keep).1.av,I (fD d.files keep).2])):=by
  refine zJ Tryz.func188 Tryz.ntmps188 Tryz.results188 ?_;simp only [go_sem]
  (refine zW qw (z2 (good_d_c d h hw) (du d h)) trivial (z2 ?_ ?_)<;>(repeat with_reducible intro hc))
  · unfold fD;rw [if_pos hc];exact zEe dfl
  obtain ⟨hg,hk0⟩:=hc
  refine AWP.loopB (ι:=Nat) (fun k=>k≤d.files.length) (fun k=>d.files.length - k) [1,2,4,20] (fun k=>[(21,I k)]) (fun k=>[.cells [.osl 2 3 0 d.files.length],.cells [.d (.sc (.slice none 0 0))],.rows 3 ((crashed d.files keep k).map AFile.row)]) 0 ?_ ?_ ?_
  · omega
  · simp only [go_sem];exact zSm @crashed.eq_1
  intro k hk
  obtain ⟨w0,w1,w2,w3⟩:=iE hw k
  have hcl:=pO d.files keep k
  simp only [go_sem]
  (refine zW qw zn (zx @v7 (zx @AFile.rset (zx @aO @List.set_set.{0}))) (z2 ?_ ?_)<;>(repeat with_reducible intro hc))
  · refine ⟨k+1,by omega,by omega,?_⟩
    have e:(⟨(d.files.getD k default).name,(d.files.getD k default).safe++List.take ((if ((d.files.getD k default).tail.length:Int) < keep then ((d.files.getD k default).tail.length:Int) else keep).toNat - 0) (d.files.getD k default).tail,[]⟩:AFile)=crashF keep (d.files.getD k default):=by
      unfold crashF;rw [Nat.sub_zero,Iz _ _ hk0]
    rw [e,wD _ _ _ hc]
    exact zFr [0,1,2] trivial
  · have e:k=d.files.length:=by omega
    subst e
    have e1:crashed d.files keep d.files.length=d.files.map (crashF keep):=by unfold crashed;simp
    rw [e1]
    unfold fD;rw [if_neg (by simp [hg];omega)]
    exact zEe @List.map_map.{0,0,0}
theorem u4 {l:List AFile} {key:List UInt8} {F:AFile→AFile×Int} (h:l.length*48≤140737488351232):(bj l key F).1.files.length*48≤140737488351232:=by
  unfold bj;split
  · decide
  · split
    · split
      · simpa using h
      · show ([]:List AFile).length*48≤_;decide
    · decide
theorem En {l:List AFile} {key:List UInt8} (h:l.length*48≤140737488351232):(bu l key).1.files.length*48≤140737488351232:=by
  unfold bu;split
  · decide
  · split
    · rename_i hg hm;simp only;rw [dJ _ _ (gb (by simpa using hg) hm)];omega
    · decide
def aQ (l:List AFile) (key s:List UInt8):ADisk×Int:=
  if bE l=false then (default,3) else if ba key=false then (default,2) else
    if key∈l.map AFile.name then
      (if 1048576 < (l.getD (place (l.map AFile.name) key) default).safe.length+(l.getD (place (l.map AFile.name) key) default).tail.length+s.length then (default,1)
        else (⟨l.set (place (l.map AFile.name) key) ⟨(l.getD (place (l.map AFile.name) key) default).name,(l.getD (place (l.map AFile.name) key) default).safe,(l.getD (place (l.map AFile.name) key) default).tail++s⟩⟩,0))
    else if 16≤l.length then (default,6) else if 1048576 < s.length then (default,1) else (⟨l.insertIdx (place (l.map AFile.name) key) ⟨key,[],s⟩⟩,0)
theorem rM {l:List AFile} (h:bE l=true):l.length≤16:=by unfold bE at h;rw [decide_eq_true_eq] at h;exact h.1
theorem jp {l:List AFile} {key:List UInt8}:place (l.map AFile.name) key≤l.length:=by have:=fW (l.map AFile.name) key;simpa using this
theorem vI (d:ADisk) (key s:List UInt8) (hs:okS s) (hk:okS key) (h:d.files.length*48≤140737488351232) (hw:∀ f,f∈d.files→f.wf):ab Tryz.prog [] 83 [d.av,S key,S s] (ret (.tup [(aQ d.files key s).1.av,I (aQ d.files key s).2])):=by
  obtain ⟨w0,w1,w2,w3⟩:=iE hw (place (d.files.map AFile.name) key)
  unfold okS at hs
  by_cases hg:bE d.files=true
  · have hl16:=rM hg
    by_cases hn:ba key=true
    · have hpl':=jp (l:=d.files) (key:=key)
      by_cases hm:key∈d.files.map AFile.name
      · have hpl:=gb hg hm
        have e:aQ d.files key s=(if 1048576 < (d.files.getD (place (d.files.map AFile.name) key) default).safe.length+(d.files.getD (place (d.files.map AFile.name) key) default).tail.length+s.length then (default,1)
          else (⟨d.files.set (place (d.files.map AFile.name) key) ⟨(d.files.getD (place (d.files.map AFile.name) key) default).name,(d.files.getD (place (d.files.map AFile.name) key) default).safe,(d.files.getD (place (d.files.map AFile.name) key) default).tail++s⟩⟩,0)):=by
          unfold aQ;rw [if_neg (by simp [hg]),if_neg (by simp [hn]),if_pos hm]
        rw [e]
        refine zJ Tryz.func83 Tryz.ntmps83 Tryz.results83 ?_;simp only [go_sem]
        (refine zW qw (z4 ((good_d_c d h hw).re (by rw [hg])) ((gC key hk).re (by rw [hn])) ((find_c d key h hg).re (by rw [decide_eq_true hm])) (du d h)) (zx @AFile.rgetD (zx @bK (zx @AFile.rset (zx @aO @List.set_set.{0})))) (z2 ?_ ?_)<;>(repeat with_reducible intro hc))
        · rw [if_pos (by omega)];exact zEe dfl
        · rw [if_neg (by omega)];exact zEe @dv
      · by_cases hf:16≤d.files.length
        · have e:aQ d.files key s=(default,6):=by unfold aQ;rw [if_neg (by simp [hg]),if_neg (by simp [hn]),if_neg hm,if_pos hf]
          rw [e]
          refine zJ Tryz.func83 Tryz.ntmps83 Tryz.results83 ?_;simp only [go_sem]
          (refine zW qw (z4 ((good_d_c d h hw).re (by rw [hg])) ((gC key hk).re (by rw [hn])) ((find_c d key h hg).re (by rw [decide_eq_false hm])) (du d h)) trivial (z1 ?_)<;>(repeat with_reducible intro hc))
          exact zEe dfl
        · have e:aQ d.files key s=(if 1048576 < s.length then (default,1) else (⟨d.files.insertIdx (place (d.files.map AFile.name) key) ⟨key,[],s⟩⟩,0)):=by
            unfold aQ;rw [if_neg (by simp [hg]),if_neg (by simp [hn]),if_neg hm,if_neg hf]
          rw [e]
          have hil:=eN d.files (place (d.files.map AFile.name) key) (⟨key,[],[]⟩:AFile) hpl'
          have hil2:=eN d.files (place (d.files.map AFile.name) key) (⟨key,[],s⟩:AFile) hpl'
          refine zJ Tryz.func83 Tryz.ntmps83 Tryz.results83 ?_;simp only [go_sem]
          (refine zW qw (zc ((good_d_c d h hw).re (by rw [hg])) (z4 ((gC key hk).re (by rw [hn])) ((find_c d key h hg).re (by rw [decide_eq_false hm])) (du d h) (ow (Dd (d.files.map AFile.row) [.str key,.str [],.str []] (place (d.files.map AFile.name) key) (by simpa using hpl') (by simp only [List.length_map];omega))))) (zx @AFile.rins (zx @yA (zx @AFile.rset (zx @KL (zx @List.length_nil.{0} @List.nil_append.{0}))))) (z2 ?_ ?_)<;>(repeat with_reducible intro hc))
          · rw [if_pos (by omega)];exact zEe dfl
          · rw [if_neg (by omega)];exact zEe @wn
    · have e:aQ d.files key s=(default,2):=by unfold aQ;rw [if_neg (by simp [hg]),if_pos (by simpa using hn)]
      rw [e]
      rw [Bool.not_eq_true] at hn
      refine zJ Tryz.func83 Tryz.ntmps83 Tryz.results83 ?_;simp only [go_sem]
      (refine zW qw (z2 ((good_d_c d h hw).re (by rw [hg])) ((gC key hk).re (by rw [hn]))) trivial (z1 ?_)<;>(repeat with_reducible intro hc))
      exact zEe dfl
  · have e:aQ d.files key s=(default,3):=by unfold aQ;rw [if_pos (by simpa using hg)]
    rw [e]
    rw [Bool.not_eq_true] at hg
    refine zJ Tryz.func83 Tryz.ntmps83 Tryz.results83 ?_;simp only [go_sem]
    (refine zW qw (z1 ((good_d_c d h hw).re (by rw [hg]))) trivial (z1 ?_)<;>(repeat with_reducible intro hc))
    exact zEe dfl
theorem jj {l:List AFile} {key s:List UInt8}:(aQ l key s).1.files.length*48≤140737488351232:=by
  unfold aQ;split
  · decide
  · rename_i hg
    have hl:=rM (l:=l) (by simpa using hg)
    split
    · decide
    · split
      · split
        · decide
        · show (l.set _ _).length*48≤_;rw [List.length_set];omega
      · split
        · decide
        · split
          · decide
          · show (l.insertIdx _ _).length*48≤_;rw [eN _ _ _ jp];omega
def l0 (t:ATxn):Bool:=decide (bU t.zxid)&&(decide (1≤t.session∧t.session≤2147483647)&&(decide (0≤t.version∧t.version≤2147483647)&&decide (0≤t.owner∧t.owner≤2147483647)))
def wP (t:ATxn):Bool:=
  if t.op≤2 then !decide (t.path=[]) || (!decide (t.data=[]) || (!decide (t.version=0) || !decide (t.owner=0)))
  else if t.op=3 then !bA t.path || (decide (t.path=[47]) || !decide (t.version=0))
  else if t.op=4 then !bA t.path || (decide (t.path=[47]) || (!decide (t.data=[]) || (!decide (t.version=0) || !decide (t.owner=0))))
  else !bA t.path || !decide (t.owner=0)
def aN (t:ATxn):Int:=if t.op < 1∨5 < t.op then 4 else if l0 t=false then 3 else if 256 < t.data.length then 1 else if wP t=true then 2 else 0
theorem xN {t:ATxn} (h:t.op < 1∨5 < t.op):aN t=4:=by unfold aN;rw [if_pos h]
theorem py {t:ATxn} (h:1≤t.op∧t.op≤5) (h2:¬ l0 t=true):aN t=3:=by unfold aN;rw [if_neg (by omega),if_pos (eq_false_of_ne_true h2)]
theorem qy {t:ATxn} (h:1≤t.op∧t.op≤5) (h2:l0 t=true) (h3:256 < t.data.length):aN t=1:=by unfold aN;rw [if_neg (by omega),if_neg (by rw [h2];decide),if_pos h3]
theorem yB {t:ATxn} (h:1≤t.op∧t.op≤5) (h2:l0 t=true) (h3:t.data.length≤256):aN t=if wP t=true then 2 else 0:=by unfold aN;rw [if_neg (by omega),if_neg (by rw [h2];decide),if_neg (by omega)]
theorem lU (t:ATxn):l0 t=true↔bU t.zxid∧(1≤t.session∧t.session≤2147483647)∧(0≤t.version∧t.version≤2147483647)∧(0≤t.owner∧t.owner≤2147483647):=by
  unfold l0;simp only [Bool.and_eq_true,decide_eq_true_eq]
theorem I1 {t:ATxn} (h:1≤t.op∧t.op≤5):wP t=true↔((t.op≤2∧(((¬t.path=[]∨¬t.data=[])∨¬t.version=0)∨¬t.owner=0))∨(3≤t.op∧(bA t.path=false∨t.path=[47]∧¬t.op=5))∨((t.op=4∧((¬t.data=[]∨¬t.version=0)∨¬t.owner=0)∨t.op=3∧¬t.version=0)∨t.op=5∧¬t.owner=0)):=by
  have hop:t.op=1∨t.op=2∨t.op=3∨t.op=4∨t.op=5:=by omega
  rcases hop with e | e | e | e | e<;>simp [wP,e,or_assoc]
theorem qm (t:ATxn) (hp:okS t.path) (hd:okS t.data):ab Tryz.prog [] 119 [t.av] (ret (I (aN t))):=by
  unfold okS at hd
  refine zJ Tryz.func119 Tryz.ntmps119 Tryz.results119 ?_;simp only [go_sem]
  (repeat' first
| (with_reducible refine AR.f ?_)
| refine ap (by decide) ?_
| (with_reducible refine AWP.cond rfl ?_ ?_<;>intro hc<;>(try simp only [hcs,beq_iff_eq,ge_iff_le,gt_iff_lt] at hc))
| ((first | ((first | (with_reducible first | refine zR ?_ | refine zQ (by decide +kernel) ?_ | refine zD (by decide +kernel) ?_ | refine zE (by decide +kernel) ?_ | refine zG (by decide +kernel) ?_));intro K hK) | ((first | refine zA (good_c t.path hp) ?_ ?_ ?_ ?_ ?_);(focus exact rfl);(focus exact rfl);iterate 2 (focus ((try simp (disch:=omega) only [go_sem,aa])<;>(try omega)<;>fail))) | ((first | refine acallH_sc (zgood_c _) rfl rfl ?_ ?_ ?_ | refine acallQ_sc (zgood_c _) rfl rfl ?_ ?_ ?_);iterate 2 (focus ((try simp (disch:=omega) only [go_sem,aa])<;>(try omega)<;>fail))) | ((first | refine zX (zgood_c _) rfl ?_ ?_ | refine zX (good_c t.path hp) rfl ?_ ?_);(focus ((try simp (disch:=omega) only [go_sem,aa])<;>(try omega)<;>fail))) | ((first | (with_reducible refine aunder_i ?_ ?_<;>intro hg) | with_reducible intro hg)<;>(first | (exfalso;simp at hg;done) | (have hg':=hg;(try simp only [hcs,beq_iff_eq,ge_iff_le,gt_iff_lt] at hg');(try simp only [hg])))))<;>(try simp (disch:=omega) only [go_sem,aa])<;>(repeat' with_reducible refine And.intro ?_ ?_)<;>(try (with_reducible refine hK _ ?_;clear hK K)))
| omega)
  · rw [xN hc];(refine zF rfl ?_ ?_ ?_ ?_;(iterate 3 (focus ((try simp (disch:=omega) only [go_sem,aa])<;>(try omega)<;>fail)));(try simp (disch:=omega) only [go_sem,aa,I,B,S,zj]))
  all_goals (have hop:1≤t.op∧t.op≤5:=by assumption)
  · rw [py hop]
    · (refine zF rfl ?_ ?_ ?_ ?_;(iterate 3 (focus ((try simp (disch:=omega) only [go_sem,aa])<;>(try omega)<;>fail)));(try simp (disch:=omega) only [go_sem,aa,I,B,S,zj]))
    rw [lU];rintro ⟨h1,h2⟩
    rcases hc with (((((c | c) | c) | c) | c) | c) | c
    · exact c h1
    all_goals omega
  all_goals (have hn:(((((bU t.zxid∧1≤t.session)∧t.session≤2147483647)∧0≤t.version)∧t.version≤2147483647)∧0≤t.owner)∧t.owner≤2147483647:=by assumption)
  all_goals (have hnb:l0 t=true:=(lU t).2 ⟨hn.1.1.1.1.1.1,by omega,by omega,by omega⟩)
  · rw [qy hop hnb (by omega)];(refine zF rfl ?_ ?_ ?_ ?_;(iterate 3 (focus ((try simp (disch:=omega) only [go_sem,aa])<;>(try omega)<;>fail)));(try simp (disch:=omega) only [go_sem,aa,I,B,S,zj]))
  all_goals rw [yB hop hnb (by omega)]
  · rw [if_pos ((I1 hop).2 (.inl hc))];(refine zF rfl ?_ ?_ ?_ ?_;(iterate 3 (focus ((try simp (disch:=omega) only [go_sem,aa])<;>(try omega)<;>fail)));(try simp (disch:=omega) only [go_sem,aa,I,B,S,zj]))
  · rw [if_pos ((I1 hop).2 (.inr (.inl ⟨by simpa using hg,hc⟩)))];(refine zF rfl ?_ ?_ ?_ ?_;(iterate 3 (focus ((try simp (disch:=omega) only [go_sem,aa])<;>(try omega)<;>fail)));(try simp (disch:=omega) only [go_sem,aa,I,B,S,zj]))
  · rw [if_pos ((I1 hop).2 (.inr (.inr hc)))];(refine zF rfl ?_ ?_ ?_ ?_;(iterate 3 (focus ((try simp (disch:=omega) only [go_sem,aa])<;>(try omega)<;>fail)));(try simp (disch:=omega) only [go_sem,aa,I,B,S,zj]))
  all_goals (rw [if_neg (fun hb=>by
    have hb:=(I1 hop).1 hb
    have hop:t.op=1∨t.op=2∨t.op=3∨t.op=4∨t.op=5:=by omega
    rcases hop with e | e | e | e | e<;>simp_all)];(refine zF rfl ?_ ?_ ?_ ?_;(iterate 3 (focus ((try simp (disch:=omega) only [go_sem,aa])<;>(try omega)<;>fail)));(try simp (disch:=omega) only [go_sem,aa,I,B,S,zj])))
def t0:ATxn:=⟨0,0,0,[],[],0,0⟩
def qJ (c:Nat):Nat:=(c / 2) ^^^ (if c % 2=1 then 3988292384 else 0)
def kJ:Nat→Nat→Nat
  | 0,c=>c
  | k+1,c=>qJ (kJ k c)
def wR (c:Nat) (b:UInt8):Nat:=kJ 8 (c ^^^ b.toNat)
def rP (s:List UInt8):Nat:=s.foldl wR 4294967295
def nT (s:List UInt8):Nat:=4294967295 - rP s
theorem Io {c:Nat} (h:c < 4294967296):qJ c < 4294967296:=by
  unfold qJ
  exact Nat.xor_lt_two_pow (n:=32) (by omega) (by split<;>decide)
theorem stepsN_lt {c:Nat} (h:c < 4294967296):∀ k,kJ k c < 4294967296
  | 0=>h
  | k+1=>Io (stepsN_lt h k)
theorem Gw {c:Nat} (b:UInt8) (h:c < 4294967296):wR c b < 4294967296:=
  stepsN_lt (Nat.xor_lt_two_pow (n:=32) h (Nat.lt_trans b.toNat_lt (by decide))) 8
theorem Er (s:List UInt8) (k:Nat) (h:k < s.length):rP (s.take (k+1))=wR (rP (s.take k)) (s.getD k 0):=by
  unfold rP
  have:s.take (k+1)=s.take k++[s.getD k 0]:=cG s k h
  rw [this,List.foldl_append];rfl
theorem KO (s:List UInt8):rP s < 4294967296:=by
  unfold rP
  have:∀ (l:List UInt8) (c:Nat),c < 4294967296→l.foldl wR c < 4294967296:=by
    intro l
    induction l with
    | nil=>intro c h;exact h
    | cons b l ih=>intro c h;exact ih _ (Gw b h)
  exact this s _ (by decide)
theorem and1 (c:Nat) (h:c < 4294967296):bits .and .u32 (c:Int) 1=((c % 2:Nat):Int):=by
  have:=u32_and_nat c 1 h (by decide)
  rw [Nat.and_one_is_mod] at this;exact this
theorem Mv (c:Nat):(c:Int) / 2=((c / 2:Nat):Int):=by omega
theorem xorp (c:Nat) (h:c < 4294967296):bits .xor .u32 (c:Int) 3988292384=((c ^^^ 3988292384:Nat):Int):=u32_xor_nat c _ h (by decide)
theorem Jb (b:UInt8):b.toNat < 4294967296:=Nat.lt_trans b.toNat_lt (by decide)
theorem G4 {c:Nat} (h:c % 2=1):qJ c=c / 2 ^^^ 3988292384:=by unfold qJ;rw [if_pos h]
theorem CU {c:Nat} (h:¬ c % 2=1):qJ c=c / 2:=by unfold qJ;rw [if_neg h,Nat.xor_zero]
theorem Ka:rP []=4294967295:=rfl
theorem Ar (b:UInt8):IntKind.u32.wrap (b.toNat:Int)=(b.toNat:Int):=by
  have:=b.toNat_lt
  rw [IntKind.wrap_u32'];omega
theorem My (c:Nat) (h:c < 4294967296):bits .xor .u32 (if IntKind.u32.signed=true then -1 else IntKind.u32.max) (c:Int)=((4294967295 - c:Nat):Int):=by
  have e:(if IntKind.u32.signed=true then (-1:Int) else IntKind.u32.max)=((4294967295:Nat):Int):=by decide
  rw [e,u32_xor_nat _ _ (by decide) h]
  congr 1
  have:4294967295 - c=2 ^ 32 - (c+1):=by omega
  apply Nat.eq_of_testBit_eq
  intro i
  rw [Nat.testBit_xor,this,Nat.testBit_two_pow_sub_succ h,show 4294967295=2 ^ 32 - 1 from rfl,Nat.testBit_two_pow_sub_one]
  by_cases hi:i < 32
  · simp [hi]
  · have:c.testBit i=false:=Nat.testBit_lt_two_pow (Nat.lt_of_lt_of_le h (Nat.pow_le_pow_right (by decide) (by omega):2 ^ 32≤2 ^ i))
    simp [hi,this]
theorem Lo (n:Nat):(((n:Nat):Int)=1)=(n=1):=by rw [eq_iff_iff];omega
theorem KZ (s:List UInt8) (h:okS s):ab Tryz.prog [] 204 [S s] (ret (I (nT s))):=by
  unfold okS at h
  refine zJ Tryz.func204 Tryz.ntmps204 Tryz.results204 ?_;simp only [go_sem]
  (refine zW qw zn trivial (z1 ?_)<;>(repeat with_reducible intro hc))
  refine AWP.loopS (ι:=Nat) (fun k=>k≤s.length) (fun k=>s.length - k) [0] (fun k=>[(3,.d (.int .u32 (rP (s.take k)))),(4,I k)]) 0 ?_ (by simp (disch:=omega) only [go_sem,aa,Ka,Int.cast_ofNat_Int]) ?_
  · omega
  intro k hk
  have hc0:=KO (s.take k)
  have hb:=Jb (s.getD k 0)
  have hx:rP (s.take k) ^^^ (s.getD k 0).toNat < 4294967296:=Nat.xor_lt_two_pow (n:=32) hc0 hb
  simp only [go_sem]
  (refine zW qw zn (zx @u32_xor_nat @Ar) (z2 ?_ ?_)<;>(repeat with_reducible intro hc))
  · refine AWP.loopS (ι:=Nat) (fun j=>j≤8) (fun j=>8 - j) [0,4] (fun j=>[(3,.d (.int .u32 (kJ j (rP (s.take k) ^^^ (s.getD k 0).toNat)))),(18,I j)]) 0 ?_ (by simp (disch:=omega) only [go_sem,aa,kJ]) ?_
    · omega
    intro j hj
    have hs:=stepsN_lt hx j
    have hs2:kJ j (rP (s.take k) ^^^ (s.getD k 0).toNat) / 2 < 4294967296:=by omega
    simp only [go_sem]
    (refine zW qw zn (zx @and1 (zx @Mv (zx @xorp @Lo))) (z3 ?_ ?_ ?_)<;>(repeat with_reducible intro hc))
    · refine ⟨j+1,by omega,by omega,?_⟩
      (refine aF.same ?_;simp (disch:=omega) only [go_sem,aa,Int.natCast_add,kJ,G4 hc])
    · refine ⟨j+1,by omega,by omega,?_⟩
      (refine aF.same ?_;simp (disch:=omega) only [go_sem,aa,Int.natCast_add,kJ,CU hc])
    · have e0:j=8:=by omega
      subst e0
      refine ⟨k+1,by omega,by omega,?_⟩
      exact zSm (zx @Er @wR.eq_1)
  · have e0:k=s.length:=by omega
    subst e0
    rw [List.take_length] at *
    exact zEe (zx @My @nT.eq_1)
def cl (l:List Nat):List AV:=l.map fun n:Nat=>AV.d (.int .i64 (n:Int))
theorem Lr (s:List UInt8):nT s≤4294967295:=Nat.sub_le _ _
structure Cur where
  t:List UInt8
  s:List UInt8
  bad:Bool
def bZ (s:List UInt8) (b:Bool) (n:Nat):Cur:=if b=true∨s.length < n then ⟨[],s,true⟩ else ⟨s.take n,s.drop n,false⟩
theorem yf {s:List UInt8} {b:Bool} {n:Nat} (h:b=true∨s.length < n):bZ s b n=⟨[],s,true⟩:=if_pos h
theorem dS {s:List UInt8} {n:Nat} (h:n≤s.length):bZ s false n=⟨s.take n,s.drop n,false⟩:=if_neg (by simp;omega)
theorem sb (s:List UInt8) (b:Bool) (n:Nat) (hs:okS s) (ni:Int) (hi:ni=n):ab Tryz.prog [.cells [S s,B b]] 202 [.ptr 0 0,I ni] (cp (S (bZ s b n).t) [.cells [S (bZ s b n).s,B (bZ s b n).bad]]):=by
  subst hi
  unfold okS at hs
  by_cases h:b=true∨s.length < n
  · rw [yf h]
    refine zJ Tryz.func202 Tryz.ntmps202 Tryz.results202 ?_;simp only [go_sem]
    (refine zW qw zn trivial (z2 ?_ ?_)<;>(repeat with_reducible intro hc))
    · (refine zO ?_ ?_;(focus ((try simp (disch:=omega) only [go_sem,aa])<;>fail));simp (disch:=omega) only [go_sem,aa];refine ag.of_simp ?_ (ag.same ⟨rfl,rfl⟩);refine zV [0] rfl rfl rfl rfl ?_ ?_<;>simp (disch:=omega) only [go_sem,aa,true_or,or_true])
    exfalso;rcases h with h | h
    · rw [h] at hc;exact absurd hc.1 (by decide)
    · omega
  · rw [show b=false from by cases b<;>simp_all] at *
    rw [dS (by omega)]
    refine zJ Tryz.func202 Tryz.ntmps202 Tryz.results202 ?_;simp only [go_sem]
    have e:List.take (s.length - n) (List.drop n s)=List.drop n s:=List.take_of_length_le (by rw [List.length_drop];omega)
    (refine zW qw zn trivial (z1 ?_)<;>(repeat with_reducible intro hc))
    (refine zO ?_ ?_;(focus ((try simp (disch:=omega) only [go_sem,aa])<;>fail));simp (disch:=omega) only [go_sem,aa,Nat.sub_zero,e];refine ag.of_simp ?_ (ag.same ⟨rfl,rfl⟩);refine zV [0] rfl rfl rfl rfl ?_ ?_<;>simp (disch:=omega) only [go_sem,aa,true_or,or_true,Nat.sub_zero,e])
def lY (l:List UInt8):Int:=l.foldl (fun v x=>IntKind.i64.wrap (v*256+x.toNat)) 0
theorem fM (n:Int):IntKind.i64.wrap n=(n+9223372036854775808) % 18446744073709551616 - 9223372036854775808:=by simp [IntKind.wrap,IntKind.bits,IntKind.signed];omega
theorem BL (n:Int) (c:UInt8):bits .or .i64 (IntKind.i64.wrap (n*256)) (c.toNat:Int)=IntKind.i64.wrap (n*256+c.toNat):=by
  have hc:=c.toNat_lt
  show IntKind.i64.wrap ((BitVec.ofInt 64 (IntKind.i64.wrap (n*256)) ||| BitVec.ofInt 64 (c.toNat:Int)).toNat:Int)=_
  have e1:(BitVec.ofInt 64 (IntKind.i64.wrap (n*256))).toNat=((n*256) % 18446744073709551616).toNat:=by
    rw [BitVec.toNat_ofInt,fM];congr 1;omega
  rw [BitVec.toNat_or,ofInt_u64 c.toNat (by omega),e1,nat_join 8 _ _ (by omega) (by omega),fM,fM]
  omega
theorem oJ (t:List UInt8) (k:Nat) (h:k < t.length):lY (t.take (k+1))=IntKind.i64.wrap (lY (t.take k)*256+(t.getD k 0).toNat):=by
  unfold lY
  have:t.take (k+1)=t.take k++[t.getD k 0]:=cG t k h
  rw [this,List.foldl_append];rfl
theorem uS (b:UInt8):IntKind.i64.wrap (b.toNat:Int)=(b.toNat:Int):=by
  have:=b.toNat_lt
  rw [fM];omega
theorem w7 (s:List UInt8) (b:Bool) (n:Nat) (hs:okS s) (ni:Int) (hi:ni=n) (hn:n≤8):ab Tryz.prog [.cells [S s,B b]] 203 [.ptr 0 0,I ni] (cp (I (lY (bZ s b n).t)) [.cells [S (bZ s b n).s,B (bZ s b n).bad]]):=by
  have hl:(bZ s b n).t.length≤8:=by unfold bZ;split<;>simp;omega
  generalize hk:bZ s b n=k at hl
  refine zJ Tryz.func203 Tryz.ntmps203 Tryz.results203 ?_;simp only [go_sem]
  have ct:ab Tryz.prog [.cells [S s,B b]] 202 [.ptr 0 0,I ni] (cp (S k.t) [.cells [S k.s,B k.bad]]):=hk▸sb s b n hs ni hi
  (refine zW qw (z1 (ac [0] ct)) trivial (z1 ?_)<;>(repeat with_reducible intro hc))
  refine AWP.loopB (ι:=Nat) (fun j=>j≤k.t.length) (fun j=>k.t.length - j) [11,12] (fun j=>[(5,I (lY (k.t.take j))),(13,I j)]) (fun j=>[.cells [S k.s,B k.bad],.bytes k.t]) 0 ?_ ?_ ?_
  · omega
  · simp only [go_sem,lY,List.foldl_nil];exact zSm trivial
  intro j hj
  simp only [go_sem]
  (refine zW qw zn (zx @u8g (zx @BL @uS)) (z2 ?_ ?_)<;>(repeat with_reducible intro hc))
  · refine ⟨j+1,by omega,by omega,?_⟩
    rw [oJ _ _ (by assumption)]
    exact zSm (zx @BL (zx @uS @u8g))
  rw [show j=k.t.length from by omega,List.take_length]
  (refine zO ?_ ?_;(focus ((try simp (disch:=omega) only [go_sem,aa])<;>fail));simp (disch:=omega) only [go_sem,aa];refine ag.of_simp ?_ (ag.same ⟨rfl,rfl⟩);refine zV [0] rfl rfl rfl rfl ?_ ?_<;>simp (disch:=omega) only [go_sem,aa,true_or,or_true])
def numN (l:List UInt8):Nat:=l.foldl (fun v x=>v*256+x.toNat) 0
theorem uR (t:List UInt8) (k:Nat) (h:k < t.length):numN (t.take (k+1))=numN (t.take k)*256+(t.getD k 0).toNat:=by
  unfold numN
  have:t.take (k+1)=t.take k++[t.getD k 0]:=cG t k h
  rw [this,List.foldl_append];rfl
theorem pu (t:List UInt8):∀ k,k≤t.length→k≤7→numN (t.take k) < 256 ^ k∧lY (t.take k)=((numN (t.take k):Nat):Int)
  | 0,_,_=>⟨by simp [numN],rfl⟩
  | k+1,h,h7=>by
    obtain ⟨h1,h2⟩:=pu t k (by omega) (by omega)
    have hb:=(t.getD k 0).toNat_lt
    have hp:256 ^ k≤256 ^ 6:=Nat.pow_le_pow_right (by decide) (by omega)
    have hq:256 ^ (k+1)=256 ^ k*256:=Nat.pow_succ ..
    rw [uR t k (by omega),oJ t k (by omega),h2,fM]
    omega
theorem Jr {t:List UInt8} {k:Nat} (h:t.length≤k) (h7:k≤7):numN t < 256 ^ k:=by
  have:=(pu t t.length (Nat.le_refl _) (by omega)).1
  rw [List.take_length] at this
  exact Nat.lt_of_lt_of_le this (Nat.pow_le_pow_right (by decide) h)
theorem y9 {t:List UInt8} (h:t.length≤7):lY t=((numN t:Nat):Int):=by
  have:=(pu t t.length (Nat.le_refl _) h).2
  rwa [List.take_length] at this
theorem rf (b:UInt8):numN [b]=b.toNat:=by simp [numN]
theorem FJ (l:List UInt8):okI (lY l):=by
  rcases List.eq_nil_or_concat l with rfl | ⟨l,x,rfl⟩
  · unfold lY okI;decide
  · unfold lY okI
    rw [List.concat_eq_append,List.foldl_append]
    simp only [List.foldl_cons,List.foldl_nil]
    rw [fM];omega
def tz:ATxn:=⟨0,0,0,[],[],0,0⟩
def bP (b:List UInt8):Nat:=(b.getD 21 0).toNat
def bD (b:List UInt8):Nat:=numN ((b.drop (22+bP b)).take 2)
def fa (b:List UInt8):ATxn:=⟨lY (b.take 8),(b.getD 8 0).toNat,(numN ((b.drop 9).take 4):Nat),(b.drop 22).take (bP b),b.drop (24+bP b),(numN ((b.drop 13).take 4):Nat),(numN ((b.drop 17).take 4):Nat)⟩
def eA (b:List UInt8):Prop:=b.length=24+bP b+bD b
def sN (s:List UInt8):Nat:=numN ((s.drop 1).take 2)
def sB (s:List UInt8):List UInt8:=(s.drop 3).take (sN s)
instance (b:List UInt8):Decidable (eA b):=inferInstanceAs (Decidable (_=_))
def dz (s:List UInt8):Prop:=s.length < 3∨s.getD 0 0≠84
def dX (s:List UInt8):Prop:=1024 < sN s∨s.length < sN s+7
def gV (s:List UInt8):Prop:=numN ((s.drop (sN s+3)).take 4)≠nT (s.take (sN s+3))
instance (s:List UInt8):Decidable (dz s):=inferInstanceAs (Decidable (_∨_))
instance (s:List UInt8):Decidable (dX s):=inferInstanceAs (Decidable (_∨_))
instance (s:List UInt8):Decidable (gV s):=inferInstanceAs (Decidable (_≠_))
def cq (s:List UInt8):ATxn×Int×Int:=
  if dz s then (tz,0,2)
  else if dX s then (tz,0,2)
  else if gV s then (tz,0,5)
  else if ¬ eA (sB s) then (tz,0,2)
  else if aN (fa (sB s))≠0 then (tz,0,aN (fa (sB s)))
  else (fa (sB s),(sN s+7:Nat),0)
theorem qG {s:List UInt8} (h:dz s):cq s=(tz,0,2):=by unfold cq;rw [if_pos h]
theorem vk {s:List UInt8} (h1:¬ dz s) (h:dX s):cq s=(tz,0,2):=by unfold cq;rw [if_neg h1,if_pos h]
theorem AI {s:List UInt8} (h1:¬ dz s) (h2:¬ dX s) (h:gV s):cq s=(tz,0,5):=by unfold cq;rw [if_neg h1,if_neg h2,if_pos h]
theorem AC {s:List UInt8} (h1:¬ dz s) (h2:¬ dX s) (h3:¬ gV s) (h:¬ eA (sB s)):cq s=(tz,0,2):=by unfold cq;rw [if_neg h1,if_neg h2,if_neg h3,if_pos h]
theorem yV {s:List UInt8} (h1:¬ dz s) (h2:¬ dX s) (h3:¬ gV s) (h4:eA (sB s)) (h:aN (fa (sB s))≠0):cq s=(tz,0,aN (fa (sB s))):=by
  unfold cq;rw [if_neg h1,if_neg h2,if_neg h3,if_neg (fun h=>h h4),if_pos h]
theorem v6 {s:List UInt8} (h1:¬ dz s) (h2:¬ dX s) (h3:¬ gV s) (h4:eA (sB s)) (h:aN (fa (sB s))=0):cq s=(fa (sB s),((sN s+7:Nat):Int),0):=by
  unfold cq;rw [if_neg h1,if_neg h2,if_neg h3,if_neg (fun h=>h h4),if_neg (fun h'=>h' h)]
theorem f0 (s:List UInt8) (b:Bool) (n:Nat) (hs:okS s) (ni:Int) (hi:ni=n) (hn:n≤7):ab Tryz.prog [.cells [S s,B b]] 203 [.ptr 0 0,I ni] (cp (I (numN (bZ s b n).t:Nat)) [.cells [S (bZ s b n).s,B (bZ s b n).bad]]):=by
  have hl:(bZ s b n).t.length≤7:=by unfold bZ;split<;>simp;omega
  rw [←y9 hl];exact w7 s b n hs ni hi (by omega)
theorem HW (s:List UInt8) (b:Bool) (n:Nat):(bZ s b n).s.length≤s.length∧(bZ s b n).t.length≤s.length∧(bZ s b n).t.length≤n:=by
  unfold bZ;split<;>simp<;>omega
theorem CH {s:List UInt8} {b:Bool} {n:Nat} (h:(bZ s b n).bad=false):b=false∧n≤s.length∧(bZ s b n).t=s.take n∧(bZ s b n).s=s.drop n:=by
  unfold bZ at *
  split at h
  · cases h
  · rename_i hn
    rw [if_neg hn]
    exact ⟨by cases b<;>simp_all,by omega,rfl,rfl⟩
theorem IX {s:List UInt8} {n:Nat} (h:(bZ s false n).bad=true):s.length < n:=by
  rcases Nat.lt_or_ge s.length n with h' | h'
  · exact h'
  · rw [dS h'] at h;cases h
structure Dec where
  k1:Cur
  k2:Cur
  k3:Cur
  k4:Cur
  j1:Cur
  j2:Cur
  j3:Cur
  j4:Cur
  j5:Cur
  j6:Cur
  j7:Cur
  j8:Cur
  j9:Cur
structure Reads (s:List UInt8) (d:Dec):Prop where
  k1:bZ s false 1=d.k1
  k2:bZ d.k1.s d.k1.bad 2=d.k2
  k3:bZ d.k2.s d.k2.bad (numN d.k2.t)=d.k3
  k4:bZ d.k3.s d.k3.bad 4=d.k4
  j1:bZ d.k3.t false 8=d.j1
  j2:bZ d.j1.s d.j1.bad 1=d.j2
  j3:bZ d.j2.s d.j2.bad 4=d.j3
  j4:bZ d.j3.s d.j3.bad 4=d.j4
  j5:bZ d.j4.s d.j4.bad 4=d.j5
  j6:bZ d.j5.s d.j5.bad 1=d.j6
  j7:bZ d.j6.s d.j6.bad (numN d.j6.t)=d.j7
  j8:bZ d.j7.s d.j7.bad 2=d.j8
  j9:bZ d.j8.s d.j8.bad (numN d.j8.t)=d.j9
theorem reads (s:List UInt8):∃ d,Reads s d:=by
  let k1:=bZ s false 1
  let k2:=bZ k1.s k1.bad 2
  let k3:=bZ k2.s k2.bad (numN k2.t)
  let k4:=bZ k3.s k3.bad 4
  let j1:=bZ k3.t false 8
  let j2:=bZ j1.s j1.bad 1
  let j3:=bZ j2.s j2.bad 4
  let j4:=bZ j3.s j3.bad 4
  let j5:=bZ j4.s j4.bad 4
  let j6:=bZ j5.s j5.bad 1
  let j7:=bZ j6.s j6.bad (numN j6.t)
  let j8:=bZ j7.s j7.bad 2
  let j9:=bZ j8.s j8.bad (numN j8.t)
  exact ⟨⟨k1,k2,k3,k4,j1,j2,j3,j4,j5,j6,j7,j8,j9⟩,⟨rfl,rfl,rfl,rfl,rfl,rfl,rfl,rfl,rfl,rfl,rfl,rfl,rfl⟩⟩
theorem gd {s:List UInt8} {b:Bool} {n:Nat} {k:Cur} (e:bZ s b n=k) (h:k.bad=false):b=false∧n≤s.length∧k.t=s.take n∧k.s=s.drop n:=by
  subst e;exact CH h
theorem no {s:List UInt8} {n:Nat} {k:Cur} (e:bZ s false n=k) (h:k.bad=true):s.length < n:=by subst e;exact IX h
theorem ln {s:List UInt8} {b:Bool} {n m:Nat} {k:Cur} (e:bZ s b n=k) (h:s.length≤m):k.s.length≤m∧k.t.length≤m∧k.t.length≤n:=by
  subst e;have:=HW s b n;omega
def th (d:Dec):ATxn:=⟨lY d.j1.t,(numN d.j2.t:Nat),(numN d.j3.t:Nat),d.j7.t,d.j9.t,(numN d.j4.t:Nat),(numN d.j5.t:Nat)⟩
theorem Fv {s:List UInt8} {d:Dec} (r:Reads s d) (h:d.k1.t≠[84]):dz s:=by
  unfold dz
  rcases Nat.lt_or_ge s.length 1 with h0 | h0
  · left;omega
  right;intro e;apply h
  have:=r.k1
  rw [dS h0] at this
  rw [←this]
  match s,h0,e with
  | x::s,_,e=>simp at e;simp [e]
theorem B3 {s:List UInt8} {d:Dec} (r:Reads s d) (h:d.k1.t=[84]):d.k1.bad=false∧d.k1.s=s.drop 1∧1≤s.length∧s.getD 0 0=84:=by
  have h1:=r.k1
  rcases Nat.lt_or_ge s.length 1 with h0 | h0
  · rw [yf (.inr h0)] at h1;rw [←h1] at h;cases h
  rw [dS h0] at h1
  rw [←h1] at h
  refine ⟨by rw [←h1],by rw [←h1],h0,?_⟩
  match s,h0,h with
  | x::s,_,h=>simp at h;simp [h]
theorem Jf {s:List UInt8} {d:Dec} (r:Reads s d) (h:d.k1.t=[84]) (h2:d.k2.bad=true):dz s:=by
  obtain ⟨a1,a2,a3,_⟩:=B3 r h
  have h3:=r.k2
  rw [a1,a2] at h3
  have:=no h3 h2
  rw [List.length_drop] at this
  left;omega
theorem B8 {s:List UInt8} {d:Dec} (r:Reads s d) (h:d.k1.t=[84]) (h2:d.k2.bad=false):¬ dz s∧numN d.k2.t=sN s∧d.k2.s=s.drop 3:=by
  obtain ⟨a1,a2,a3,a4⟩:=B3 r h
  obtain ⟨_,b2,b3,b4⟩:=gd r.k2 h2
  rw [a2] at b2 b3 b4
  rw [List.length_drop] at b2
  refine ⟨fun hh=>?_,by rw [b3];rfl,by rw [b4,List.drop_drop]⟩
  rcases hh with hh | hh
  · omega
  · exact hh a4
theorem Ig {s:List UInt8} {d:Dec} (r:Reads s d) (h:d.k1.t=[84]) (h2:d.k2.bad=false) (h4:d.k4.bad=true):s.length < sN s+7:=by
  obtain ⟨a1,a2,a3⟩:=B8 r h h2
  rcases Nat.lt_or_ge s.length (sN s+7) with h' | h'
  · exact h'
  have r3:=r.k3
  rw [h2,a2,a3,dS (by rw [List.length_drop];omega)] at r3
  have r4:=r.k4
  rw [←r3] at r4
  have:=no r4 h4
  simp at this;omega
theorem EF {s:List UInt8} {d:Dec} (r:Reads s d) (h:d.k1.t=[84]) (h2:d.k2.bad=false) (h4:d.k4.bad=false):sN s+7≤s.length∧d.k3.t=sB s∧d.k4.t=(s.drop (sN s+3)).take 4:=by
  obtain ⟨a1,a2,a3⟩:=B8 r h h2
  obtain ⟨b1,b2,b3,b4⟩:=gd r.k4 h4
  obtain ⟨c1,c2,c3,c4⟩:=gd r.k3 b1
  rw [a2,a3] at c2 c3 c4
  rw [List.length_drop] at c2
  rw [c4] at b2 b3
  rw [List.drop_drop] at b2 b3
  rw [List.length_drop] at b2
  exact ⟨by omega,c3,by rw [b3,Nat.add_comm 3]⟩
theorem IU {s:List UInt8} {d:Dec} (r:Reads s d) {b:List UInt8} (hb:d.k3.t=b) (h9:d.j9.bad=false) (hs:d.j9.s=[]):eA b∧th d=fa b:=by
  obtain ⟨i9,l9,t9,s9⟩:=gd r.j9 h9
  obtain ⟨i8,l8,t8,s8⟩:=gd r.j8 i9
  obtain ⟨i7,l7,t7,s7⟩:=gd r.j7 i8
  obtain ⟨i6,l6,t6,s6⟩:=gd r.j6 i7
  obtain ⟨i5,l5,t5,s5⟩:=gd r.j5 i6
  obtain ⟨i4,l4,t4,s4⟩:=gd r.j4 i5
  obtain ⟨i3,l3,t3,s3⟩:=gd r.j3 i4
  obtain ⟨i2,l2,t2,s2⟩:=gd r.j2 i3
  obtain ⟨i1,l1,t1,s1⟩:=gd r.j1 i2
  rw [hb] at t1 s1 l1
  rw [s1] at t2 s2 l2
  rw [s2,List.drop_drop] at t3 s3 l3
  rw [s3,List.drop_drop] at t4 s4 l4
  rw [s4,List.drop_drop] at t5 s5 l5
  rw [s5,List.drop_drop] at t6 s6 l6
  rw [s6,List.drop_drop] at t7 s7 l7
  rw [s7,List.drop_drop] at t8 s8 l8
  rw [s8,List.drop_drop] at t9 s9 l9
  simp only [Nat.reduceAdd,List.length_drop] at *
  have e1:∀ k,k < b.length→(b.drop k).take 1=[b.getD k 0]:=fun k hk=>by
    rw [List.drop_eq_getElem_cons hk,List.take_succ_cons,List.take_zero];simp [hk]
  have n6:numN d.j6.t=bP b:=by rw [t6,e1 21 (by omega),rf];rfl
  rw [n6] at t7 s7 l7 t8 s8 l8 t9 s9 l9
  have n8:numN d.j8.t=bD b:=by rw [t8,show 8+(14+bP b)=22+bP b from by omega];rfl
  rw [n8] at t9 s9 l9
  have hz:d.j9.s.length=0:=by rw [hs];rfl
  rw [s9] at hz
  simp only [List.length_drop] at hz
  have hok:b.length=24+bP b+bD b:=by omega
  refine ⟨hok,?_⟩
  unfold th fa
  rw [t1,t2,t3,t4,t5,t7,t9,e1 8 (by omega),rf]
  congr 1
  · rw [show 8+(14+bP b+2)=24+bP b from by omega]
    exact List.take_of_length_le (by rw [List.length_drop];omega)
theorem FL {s:List UInt8} {d:Dec} (r:Reads s d) {b:List UInt8} (hb:d.k3.t=b) (h:eA b):d.j9.bad=false∧d.j9.s=[]:=by
  unfold eA at h
  have e1:∀ k,k < b.length→(b.drop k).take 1=[b.getD k 0]:=fun k hk=>by
    rw [List.drop_eq_getElem_cons hk,List.take_succ_cons,List.take_zero];simp [hk]
  have r1:=r.j1
  rw [hb,dS (by omega)] at r1
  have r2:=r.j2
  rw [←r1,dS (by simp only [List.length_drop];omega),List.drop_drop] at r2
  have r3:=r.j3
  rw [←r2,dS (by simp only [List.length_drop];omega),List.drop_drop] at r3
  have r4:=r.j4
  rw [←r3,dS (by simp only [List.length_drop];omega),List.drop_drop] at r4
  have r5:=r.j5
  rw [←r4,dS (by simp only [List.length_drop];omega),List.drop_drop] at r5
  have r6:=r.j6
  rw [←r5,dS (by simp only [List.length_drop];omega),List.drop_drop,e1 _ (by omega)] at r6
  have n6:numN d.j6.t=bP b:=by rw [←r6,rf];rfl
  have r7:=r.j7
  rw [n6,←r6,dS (by simp only [List.length_drop];omega),List.drop_drop] at r7
  have r8:=r.j8
  rw [←r7,dS (by simp only [List.length_drop];omega),List.drop_drop] at r8
  have n8:numN d.j8.t=bD b:=by rw [←r8];rfl
  have r9:=r.j9
  rw [n8,←r8,dS (by simp only [List.length_drop];omega),List.drop_drop] at r9
  exact ⟨by rw [←r9],by rw [←r9];exact List.drop_eq_nil_of_le (by omega)⟩
set_option maxHeartbeats 4000000 in
theorem decode_c (s:List UInt8) (hs:s.length≤1048576):ab Tryz.prog [] 140 [S s] (ret (.tup [(cq s).1.av,I (cq s).2.1,I (cq s).2.2])):=by
  obtain ⟨d,r⟩:=reads s
  have e1:=ln r.k1 hs
  have e2:=ln r.k2 e1.1
  have e3:=ln r.k3 e2.1
  have e4:=ln r.k4 e3.1
  have f1:=ln r.j1 e3.2.1
  have f2:=ln r.j2 f1.1
  have f3:=ln r.j3 f2.1
  have f4:=ln r.j4 f3.1
  have f5:=ln r.j5 f4.1
  have f6:=ln r.j6 f5.1
  have f7:=ln r.j7 f6.1
  have f8:=ln r.j8 f7.1
  have f9:=ln r.j9 f8.1
  have hn:numN d.k2.t < 65536:=Jr (k:=2) e2.2.2 (by decide)
  have ok {t:List UInt8} (h:t.length≤1048576):okS t:=by unfold okS;omega
  have c1:=sb s false 1 (ok hs) 1 rfl
  have c2:=f0 d.k1.s d.k1.bad 2 (ok e1.1) 2 rfl (by decide)
  have c3:=sb d.k2.s d.k2.bad (numN d.k2.t) (ok e2.1) (numN d.k2.t:Nat) rfl
  have c4:=f0 d.k3.s d.k3.bad 4 (ok e3.1) 4 rfl (by decide)
  have b1:=w7 d.k3.t false 8 (ok e3.2.1) 8 rfl (by decide)
  have b2:=f0 d.j1.s d.j1.bad 1 (ok f1.1) 1 rfl (by decide)
  have b3:=f0 d.j2.s d.j2.bad 4 (ok f2.1) 4 rfl (by decide)
  have b4:=f0 d.j3.s d.j3.bad 4 (ok f3.1) 4 rfl (by decide)
  have b5:=f0 d.j4.s d.j4.bad 4 (ok f4.1) 4 rfl (by decide)
  have b6:=f0 d.j5.s d.j5.bad 1 (ok f5.1) 1 rfl (by decide)
  have b7:=sb d.j6.s d.j6.bad (numN d.j6.t) (ok f6.1) (numN d.j6.t:Nat) rfl
  have b8:=f0 d.j7.s d.j7.bad 2 (ok f7.1) 2 rfl (by decide)
  have b9:=sb d.j8.s d.j8.bad (numN d.j8.t) (ok f8.1) (numN d.j8.t:Nat) rfl
  rw [r.k1] at c1
  rw [r.k2] at c2
  rw [r.k3] at c3
  rw [r.k4] at c4
  rw [r.j1] at b1
  rw [r.j2] at b2
  rw [r.j3] at b3
  rw [r.j4] at b4
  rw [r.j5] at b5
  rw [r.j6] at b6
  rw [r.j7] at b7
  rw [r.j8] at b8
  rw [r.j9] at b9
  have q3:(3+(numN d.k2.t:Int)).toNat=3+numN d.k2.t:=by omega
  have cs:=KZ (s.take (3+numN d.k2.t)) (ok (by simp;omega))
  have cg:ab Tryz.prog [] 119 [(th d).av] (ret (I (aN (th d)))):=qm (th d) (ok f7.2.1) (ok f9.2.1)
  unfold ATxn.av th at cg
  refine zJ Tryz.func140 Tryz.ntmps140 Tryz.results140 ?_;simp only [go_sem]
  (repeat' first
| (with_reducible refine AR.f ?_)
| refine ap (by decide) ?_
| (with_reducible refine AWP.cond rfl ?_ ?_<;>intro hc<;>(try simp only [hcs,beq_iff_eq,ge_iff_le,gt_iff_lt] at hc))
| ((first | ((first | (with_reducible first | refine zR ?_ | refine zQ (by decide +kernel) ?_ | refine zD (by decide +kernel) ?_ | refine zE (by decide +kernel) ?_ | refine zG (by decide +kernel) ?_));intro K hK) | ((first | refine zA cs ?_ ?_ ?_ ?_ ?_ | refine zA cg ?_ ?_ ?_ ?_ ?_);(focus exact rfl);(focus exact rfl);iterate 2 (focus ((try simp (disch:=omega) only [go_sem,aa,q3,Nat.sub_zero])<;>(try omega)<;>fail))) | ((first | refine zX cs rfl ?_ ?_ | refine zX cg rfl ?_ ?_);(focus ((try simp (disch:=omega) only [go_sem,aa,q3,Nat.sub_zero])<;>(try omega)<;>fail))) | (refine acallH_at [1] (c1) ?_ ?_ ?_;(focus ((try simp (disch:=omega) only [inj,List.cons.injEq,and_self,List.nodup_cons,List.not_mem_nil,List.mem_cons,not_false_eq_true,List.nodup_nil,go_sem,aa,q3,Nat.sub_zero])<;>(try omega)<;>fail));(focus ((try simp (disch:=omega) only [inj,List.cons.injEq,and_self,List.nodup_cons,List.not_mem_nil,List.mem_cons,not_false_eq_true,List.nodup_nil,go_sem,aa,q3,Nat.sub_zero])<;>(try omega)<;>(try decide)<;>fail))) | (refine acallH_at [1] (c2) ?_ ?_ ?_;(focus ((try simp (disch:=omega) only [inj,List.cons.injEq,and_self,List.nodup_cons,List.not_mem_nil,List.mem_cons,not_false_eq_true,List.nodup_nil,go_sem,aa,q3,Nat.sub_zero])<;>(try omega)<;>fail));(focus ((try simp (disch:=omega) only [inj,List.cons.injEq,and_self,List.nodup_cons,List.not_mem_nil,List.mem_cons,not_false_eq_true,List.nodup_nil,go_sem,aa,q3,Nat.sub_zero])<;>(try omega)<;>(try decide)<;>fail))) | (refine acallH_at [1] (c3) ?_ ?_ ?_;(focus ((try simp (disch:=omega) only [inj,List.cons.injEq,and_self,List.nodup_cons,List.not_mem_nil,List.mem_cons,not_false_eq_true,List.nodup_nil,go_sem,aa,q3,Nat.sub_zero])<;>(try omega)<;>fail));(focus ((try simp (disch:=omega) only [inj,List.cons.injEq,and_self,List.nodup_cons,List.not_mem_nil,List.mem_cons,not_false_eq_true,List.nodup_nil,go_sem,aa,q3,Nat.sub_zero])<;>(try omega)<;>(try decide)<;>fail))) | (refine acallH_at [1] (c4) ?_ ?_ ?_;(focus ((try simp (disch:=omega) only [inj,List.cons.injEq,and_self,List.nodup_cons,List.not_mem_nil,List.mem_cons,not_false_eq_true,List.nodup_nil,go_sem,aa,q3,Nat.sub_zero])<;>(try omega)<;>fail));(focus ((try simp (disch:=omega) only [inj,List.cons.injEq,and_self,List.nodup_cons,List.not_mem_nil,List.mem_cons,not_false_eq_true,List.nodup_nil,go_sem,aa,q3,Nat.sub_zero])<;>(try omega)<;>(try decide)<;>fail))) | (refine acallH_at [2] (b1) ?_ ?_ ?_;(focus ((try simp (disch:=omega) only [inj,List.cons.injEq,and_self,List.nodup_cons,List.not_mem_nil,List.mem_cons,not_false_eq_true,List.nodup_nil,go_sem,aa,q3,Nat.sub_zero])<;>(try omega)<;>fail));(focus ((try simp (disch:=omega) only [inj,List.cons.injEq,and_self,List.nodup_cons,List.not_mem_nil,List.mem_cons,not_false_eq_true,List.nodup_nil,go_sem,aa,q3,Nat.sub_zero])<;>(try omega)<;>(try decide)<;>fail))) | (refine acallH_at [2] (b2) ?_ ?_ ?_;(focus ((try simp (disch:=omega) only [inj,List.cons.injEq,and_self,List.nodup_cons,List.not_mem_nil,List.mem_cons,not_false_eq_true,List.nodup_nil,go_sem,aa,q3,Nat.sub_zero])<;>(try omega)<;>fail));(focus ((try simp (disch:=omega) only [inj,List.cons.injEq,and_self,List.nodup_cons,List.not_mem_nil,List.mem_cons,not_false_eq_true,List.nodup_nil,go_sem,aa,q3,Nat.sub_zero])<;>(try omega)<;>(try decide)<;>fail))) | (refine acallH_at [2] (b3) ?_ ?_ ?_;(focus ((try simp (disch:=omega) only [inj,List.cons.injEq,and_self,List.nodup_cons,List.not_mem_nil,List.mem_cons,not_false_eq_true,List.nodup_nil,go_sem,aa,q3,Nat.sub_zero])<;>(try omega)<;>fail));(focus ((try simp (disch:=omega) only [inj,List.cons.injEq,and_self,List.nodup_cons,List.not_mem_nil,List.mem_cons,not_false_eq_true,List.nodup_nil,go_sem,aa,q3,Nat.sub_zero])<;>(try omega)<;>(try decide)<;>fail))) | (refine acallH_at [2] (b4) ?_ ?_ ?_;(focus ((try simp (disch:=omega) only [inj,List.cons.injEq,and_self,List.nodup_cons,List.not_mem_nil,List.mem_cons,not_false_eq_true,List.nodup_nil,go_sem,aa,q3,Nat.sub_zero])<;>(try omega)<;>fail));(focus ((try simp (disch:=omega) only [inj,List.cons.injEq,and_self,List.nodup_cons,List.not_mem_nil,List.mem_cons,not_false_eq_true,List.nodup_nil,go_sem,aa,q3,Nat.sub_zero])<;>(try omega)<;>(try decide)<;>fail))) | (refine acallH_at [2] (b5) ?_ ?_ ?_;(focus ((try simp (disch:=omega) only [inj,List.cons.injEq,and_self,List.nodup_cons,List.not_mem_nil,List.mem_cons,not_false_eq_true,List.nodup_nil,go_sem,aa,q3,Nat.sub_zero])<;>(try omega)<;>fail));(focus ((try simp (disch:=omega) only [inj,List.cons.injEq,and_self,List.nodup_cons,List.not_mem_nil,List.mem_cons,not_false_eq_true,List.nodup_nil,go_sem,aa,q3,Nat.sub_zero])<;>(try omega)<;>(try decide)<;>fail))) | (refine acallH_at [2] (b6) ?_ ?_ ?_;(focus ((try simp (disch:=omega) only [inj,List.cons.injEq,and_self,List.nodup_cons,List.not_mem_nil,List.mem_cons,not_false_eq_true,List.nodup_nil,go_sem,aa,q3,Nat.sub_zero])<;>(try omega)<;>fail));(focus ((try simp (disch:=omega) only [inj,List.cons.injEq,and_self,List.nodup_cons,List.not_mem_nil,List.mem_cons,not_false_eq_true,List.nodup_nil,go_sem,aa,q3,Nat.sub_zero])<;>(try omega)<;>(try decide)<;>fail))) | (refine acallH_at [2] (b7) ?_ ?_ ?_;(focus ((try simp (disch:=omega) only [inj,List.cons.injEq,and_self,List.nodup_cons,List.not_mem_nil,List.mem_cons,not_false_eq_true,List.nodup_nil,go_sem,aa,q3,Nat.sub_zero])<;>(try omega)<;>fail));(focus ((try simp (disch:=omega) only [inj,List.cons.injEq,and_self,List.nodup_cons,List.not_mem_nil,List.mem_cons,not_false_eq_true,List.nodup_nil,go_sem,aa,q3,Nat.sub_zero])<;>(try omega)<;>(try decide)<;>fail))) | (refine acallH_at [2] (b8) ?_ ?_ ?_;(focus ((try simp (disch:=omega) only [inj,List.cons.injEq,and_self,List.nodup_cons,List.not_mem_nil,List.mem_cons,not_false_eq_true,List.nodup_nil,go_sem,aa,q3,Nat.sub_zero])<;>(try omega)<;>fail));(focus ((try simp (disch:=omega) only [inj,List.cons.injEq,and_self,List.nodup_cons,List.not_mem_nil,List.mem_cons,not_false_eq_true,List.nodup_nil,go_sem,aa,q3,Nat.sub_zero])<;>(try omega)<;>(try decide)<;>fail))) | (refine acallH_at [2] (b9) ?_ ?_ ?_;(focus ((try simp (disch:=omega) only [inj,List.cons.injEq,and_self,List.nodup_cons,List.not_mem_nil,List.mem_cons,not_false_eq_true,List.nodup_nil,go_sem,aa,q3,Nat.sub_zero])<;>(try omega)<;>fail));(focus ((try simp (disch:=omega) only [inj,List.cons.injEq,and_self,List.nodup_cons,List.not_mem_nil,List.mem_cons,not_false_eq_true,List.nodup_nil,go_sem,aa,q3,Nat.sub_zero])<;>(try omega)<;>(try decide)<;>fail))) | ((first | (with_reducible refine aunder_i ?_ ?_<;>intro hg) | with_reducible intro hg)<;>(first | (exfalso;simp at hg;done) | (have hg':=hg;(try simp only [hcs,beq_iff_eq,ge_iff_le,gt_iff_lt] at hg');(try simp only [hg])))))<;>(try simp (disch:=omega) only [go_sem,aa,q3,Nat.sub_zero])<;>(repeat' with_reducible refine And.intro ?_ ?_)<;>(try (with_reducible refine hK _ ?_;clear hK K)))
| omega)
  · rw [qG (Fv r hc)];(refine zF rfl ?_ ?_ ?_ ?_;(iterate 3 (focus ((try simp (disch:=omega) only [go_sem,aa,tz])<;>(try omega)<;>fail)));(try simp (disch:=omega) only [go_sem,aa,tz,I,B,S,zj]))
  all_goals (have hk:d.k1.t=[84]:=by assumption)
  · cases hb:d.k2.bad with
    | true=>rw [qG (Jf r hk hb)];(refine zF rfl ?_ ?_ ?_ ?_;(iterate 3 (focus ((try simp (disch:=omega) only [go_sem,aa,tz])<;>(try omega)<;>fail)));(try simp (disch:=omega) only [go_sem,aa,tz,I,B,S,zj]))
    | false=>
      obtain ⟨a1,a2,a3⟩:=B8 r hk hb
      rw [vk a1 (.inl (by rw [hb] at hc;rw [←a2];rcases hc with hc | hc;cases hc;omega))];(refine zF rfl ?_ ?_ ?_ ?_;(iterate 3 (focus ((try simp (disch:=omega) only [go_sem,aa,tz])<;>(try omega)<;>fail)));(try simp (disch:=omega) only [go_sem,aa,tz,I,B,S,zj]))
  all_goals (have hb:d.k2.bad=false∧(numN d.k2.t:Int)≤1024:=by assumption)
  all_goals obtain ⟨a1,a2,a3⟩:=B8 r hk hb.1
  · rw [vk a1 (.inr (Ig r hk hb.1 hc))];(refine zF rfl ?_ ?_ ?_ ?_;(iterate 3 (focus ((try simp (disch:=omega) only [go_sem,aa,tz])<;>(try omega)<;>fail)));(try simp (disch:=omega) only [go_sem,aa,tz,I,B,S,zj]))
  all_goals (have h4:d.k4.bad=false:=by assumption)
  all_goals obtain ⟨x1,x2,x3⟩:=EF r hk hb.1 h4
  · omega
  all_goals (have a4:¬ dX s:=fun h=>by unfold dX at h;omega)
  all_goals (have ee1:nT (List.take (3+numN d.k2.t) s)=nT (List.take (sN s+3) s):=by rw [a2,Nat.add_comm])
  all_goals (have ee2:numN d.k4.t=numN (List.take 4 (List.drop (sN s+3) s)):=by rw [x3])
  · rw [AI a1 a4 (by unfold gV;omega)];(refine zF rfl ?_ ?_ ?_ ?_;(iterate 3 (focus ((try simp (disch:=omega) only [go_sem,aa,tz])<;>(try omega)<;>fail)));(try simp (disch:=omega) only [go_sem,aa,tz,I,B,S,zj]))
  all_goals (have a5:¬ gV s:=fun h=>by unfold gV at h;omega)
  · have hno:¬ eA (sB s):=fun h=>by
      obtain ⟨u1,u2⟩:=FL r x2 h
      rcases hc with hc | hc
      · rw [u1] at hc;cases hc
      · exact hc u2
    rw [AC a1 a4 a5 hno];(refine zF rfl ?_ ?_ ?_ ?_;(iterate 3 (focus ((try simp (disch:=omega) only [go_sem,aa,tz])<;>(try omega)<;>fail)));(try simp (disch:=omega) only [go_sem,aa,tz,I,B,S,zj]))
  all_goals (have h9:d.j9.bad=false∧d.j9.s=[]:=by assumption)
  all_goals obtain ⟨y1,y2⟩:=IU r x2 h9.1 h9.2
  · have hg2:aN (fa (sB s))≠0:=y2▸hc
    rw [yV a1 a4 a5 y1 hg2,←y2];(refine zF rfl ?_ ?_ ?_ ?_;(iterate 3 (focus ((try simp (disch:=omega) only [go_sem,aa,tz,th])<;>(try omega)<;>fail)));(try simp (disch:=omega) only [go_sem,aa,tz,th,I,B,S,zj]))
  · have hg2:aN (fa (sB s))=0:=y2▸hc
    rw [v6 a1 a4 a5 y1 hg2,←y2];(refine zF rfl ?_ ?_ ?_ ?_;(iterate 3 (focus ((try simp (disch:=omega) only [go_sem,aa,th,Int.natCast_add,a2])<;>(try omega)<;>fail)));(try simp (disch:=omega) only [go_sem,aa,th,Int.natCast_add,a2,I,B,S,zj]))
def fy (l:List Int):Prop:=∀ k,k+1 < l.length→l.getD k default < l.getD (k+1) default
theorem eh {l:List Int} (h:fy l) {i:Nat}:∀ {j:Nat},i < j→j < l.length→l.getD i default < l.getD j default
  | 0,h1,_=>by omega
  | j+1,h1,h2=>by
    by_cases e:i=j
    · subst e;exact h i h2
    · exact Int.lt_trans (eh h (by omega) (by omega)) (h j h2)
def aT (l:List Int) (key:Int):Nat:=l.findIdx fun x=>!decide (x < key)
theorem po {l:List Int} {key:Int} {i:Nat} (h0:i≤l.length) (h1:∀ k,k < i→l.getD k default < key) (h2:i < l.length→¬ l.getD i default < key):aT l key=i:=by
  unfold aT
  by_cases e:i < l.length
  · rw [List.findIdx_eq e]
    have h3:=h2 e
    rw [List.getD_eq_getElem?_getD,List.getElem?_eq_getElem e] at h3
    refine ⟨by simpa using h3,fun j hj=>?_⟩
    have h4:=h1 j hj
    rw [List.getD_eq_getElem?_getD,List.getElem?_eq_getElem (by omega)] at h4
    simpa using h4
  · have e2:i=l.length:=by omega
    subst e2
    rw [List.findIdx_eq_length]
    intro x hx
    obtain ⟨j,hj,rfl⟩:=List.getElem_of_mem hx
    have h4:=h1 j hj
    rw [List.getD_eq_getElem?_getD,List.getElem?_eq_getElem hj] at h4
    simpa using h4
theorem zo {l:List Int} {key:Int} {i:Nat} (hr:fy l) (h1:∀ k,k < i→l.getD k default < key) (h2:i < l.length→¬ l.getD i default < key):key∈l↔i < l.length∧l.getD i default=key:=by
  rw [bB l default]
  constructor
  · rintro ⟨k,hk,e⟩
    have a:¬ k < i:=fun hki=>by have:=h1 k hki;omega
    have b:¬ i < k:=fun hik=>by
      have:=eh hr hik hk
      rw [e] at this;exact h2 (by omega) this
    have c:i=k:=by omega
    subst c;exact ⟨hk,e⟩
  · rintro ⟨h,e⟩;exact ⟨i,h,e⟩
theorem vr (l:List Int) (key:Int) (h:l.length*8≤140737488351232) (hr:fy l) :
    ab Tryz.prog [] 69 [.d (.sl 1 (l.map cW)),I key] (ret (.tup [I (aT l key),B (decide (key∈l))])):=by
  refine zJ Tryz.func69 Tryz.ntmps69 Tryz.results69 ?_;simp only [go_sem]
  (refine zW qw zn trivial (z1 ?_)<;>(repeat with_reducible intro hc))
  refine AWP.loopS (ι:=Nat×Nat) (fun v=>v.1≤v.2∧v.2≤l.length∧(∀ k,k < v.1→l.getD k default < key)∧(v.2 < l.length→¬ l.getD v.2 default < key)) (fun v=>v.2 - v.1) [0,1,6] (fun v=>[(7,I v.1),(8,I v.2)]) (0,l.length) ?_ (by simp (disch:=omega) only [go_sem,aa,true_and]) ?_
  · exact ⟨by simp,by simp,fun k hk=>by simp at hk,fun k=>by simp at k⟩
  intro ⟨i,j⟩ ⟨h1,h2,h3,h4⟩
  simp only at h1 h2 h3 h4
  simp only [go_sem]
  (repeat' first
| (with_reducible refine AR.f ?_)
| refine ap (by decide) ?_
| (with_reducible refine AWP.cond rfl ?_ ?_<;>intro hc<;>(try simp only [hcs,beq_iff_eq,ge_iff_le,gt_iff_lt] at hc))
| (refine bQ fun Kk hKk=>(cr bF Tryz.func123 rfl (by kernel_rfl) (by simp [Tryz.ntmps123]) ?_);simp only [Tryz.ntmps123,Tryz.results123,List.toList_toArray,gl,List.length_nil,List.length_cons,Nat.reduceAdd,List.length_append,List.length_set,go_sem])
| (refine bQ fun Kk hKk=>(cr bF Tryz.func189 rfl (by kernel_rfl) (by simp [Tryz.ntmps189]) ?_);simp only [Tryz.ntmps189,Tryz.results189,List.toList_toArray,gl,List.length_nil,List.length_cons,Nat.reduceAdd,List.length_append,List.length_set,go_sem])
| (refine bQ fun Kk hKk=>(cr bF Tryz.func124 rfl (by kernel_rfl) (by simp [Tryz.ntmps124]) ?_);simp only [Tryz.ntmps124,Tryz.results124,List.toList_toArray,gl,List.length_nil,List.length_cons,Nat.reduceAdd,List.length_append,List.length_set,go_sem])
| ((first | ((first | (with_reducible first | refine zR ?_ | refine zQ (by decide +kernel) ?_ | refine zD (by decide +kernel) ?_ | refine zE (by decide +kernel) ?_ | refine zG (by decide +kernel) ?_));intro K hK) | (refine aend_in (v:=?_) hKk (by first | exact .inl rfl | exact .inr rfl) ?_ ?_ ?_;rotate_left;(focus ((try simp (disch:=omega) only [go_sem,aa,kj])<;>(try omega)<;>fail));(focus ((try simp (disch:=omega) only [go_sem,aa,kj])<;>(first | done | exact rfl)));clear hKk Kk) | ((first | (with_reducible refine aunder_i ?_ ?_<;>intro hg) | with_reducible intro hg)<;>(first | (exfalso;simp at hg;done) | (have hg':=hg;(try simp only [hcs,beq_iff_eq,ge_iff_le,gt_iff_lt] at hg');(try simp only [hg])))))<;>(try simp (disch:=omega) only [go_sem,aa,kj])<;>(repeat' with_reducible refine And.intro ?_ ?_)<;>(try (with_reducible refine hK _ ?_;clear hK K)))
| omega)
  · refine ⟨((i+j) / 2+1,j),⟨by simp only;omega,h2,fun k hk=>?_,h4⟩,by simp only;omega,?_⟩
    · by_cases e:k=(i+j) / 2
      · rw [e];exact hc
      · exact Int.lt_trans (eh (j:=(i+j) / 2) hr (by simp only at hk;omega) (by omega)) hc
    exact zSm trivial
  · refine ⟨(i,(i+j) / 2),⟨by simp only;omega,by simp only;omega,h3,fun _=>Int.not_lt.2 hc⟩,by simp only;omega,?_⟩
    exact zSm trivial
  all_goals
    have e0:i=j:=by omega
    subst e0
    have e1:aT l key=i:=po (by omega) h3 h4
    have e2:key∈l↔i < l.length∧l.getD i default=key:=zo hr h3 h4
    (refine zE2 @e1 ?_;(try simp (disch:=omega) only [go_sem,aa,e1,I,B,S,zj]))
    simp only [e2]
    simp at hg;simp
def bsI (lt:Nat→Bool):Nat→Nat→Nat→Nat
  | 0,i,_=>i
  | f+1,i,j=>if i < j then (if lt ((i+j) / 2)=true then bsI lt f ((i+j) / 2+1) j else bsI lt f i ((i+j) / 2)) else i
def ltN (ns:List (List UInt8)) (key:List UInt8) (k:Nat):Bool:=decide (ns.getD k [] < key)
def bsN (ns:List (List UInt8)) (key:List UInt8):Nat:=bsI (ltN ns key) ns.length 0 ns.length
def g9 (ns:List (List UInt8)) (key:List UInt8):Bool:=decide (bsN ns key < ns.length∧ns.getD (bsN ns key) []=key)
theorem Ci {lt:Nat→Bool} {f i:Nat}:bsI lt f i i=i:=by
  cases f with
  | zero=>rfl
  | succ f=>rw [bsI,if_neg (by omega)]
theorem F4 {lt:Nat→Bool} {f i j:Nat} (h:i < j) (h2:lt ((i+j) / 2)=true):bsI lt (f+1) i j=bsI lt f ((i+j) / 2+1) j:=by rw [bsI,if_pos h,if_pos h2]
theorem HZ {lt:Nat→Bool} {f i j:Nat} (h:i < j) (h2:¬ lt ((i+j) / 2)=true):bsI lt (f+1) i j=bsI lt f i ((i+j) / 2):=by rw [bsI,if_pos h,if_neg h2]
theorem pd {ns:List (List UInt8)} {key:List UInt8} (hr:aU ns):∀ {f i j:Nat},i≤j→j≤ns.length→j - i≤f→(∀ k,k < i→ns.getD k [] < key)→(j < ns.length→¬ ns.getD j [] < key)→bsI (ltN ns key) f i j=place ns key
  | 0,i,j,h1,h2,h3,h4,h5=>by
    rw [bsI]
    rw [show j=i from by omega] at h5
    exact (gU (by omega) h4 h5).symm
  | f + 1,i,j,h1,h2,h3,h4,h5=>by
    by_cases h:i < j
    · by_cases hc:ltN ns key ((i+j) / 2)=true
      · rw [F4 h hc]
        unfold ltN at hc
        rw [decide_eq_true_eq] at hc
        refine pd hr (by omega) h2 (by omega) (fun k hk=>?_) h5
        by_cases e:k=(i+j) / 2
        · rw [e];exact hc
        · exact List.lt_trans (bd (j:=(i+j) / 2) hr (by omega) (by omega)) hc
      · rw [HZ h hc]
        unfold ltN at hc
        rw [decide_eq_true_eq] at hc
        exact pd hr (by omega) (by omega) (by omega) h4 fun _=>hc
    · rw [show j=i from by omega] at h5 ⊢
      rw [Ci]
      exact (gU (by omega) h4 h5).symm
theorem va {ns:List (List UInt8)} {key:List UInt8} (hr:aU ns):bsN ns key=place ns key:=
  pd hr (Nat.zero_le _) (Nat.le_refl _) (by omega) (fun k hk=>by omega) (fun h=>by omega)
theorem nk {ns:List (List UInt8)} {key:List UInt8} (hr:aU ns):g9 ns key=decide (key∈ns):=by
  unfold g9
  rw [va hr,decide_eq_decide]
  constructor
  · rintro ⟨h1,h2⟩;rw [←h2];exact cu _ _ h1
  · exact ao hr
theorem yP {ns:List (List UInt8)} {key:List UInt8} (h:g9 ns key=true):key∈ns:=by
  unfold g9 at h
  rw [decide_eq_true_eq] at h
  have:=cu ns [] h.1
  rwa [h.2] at this
theorem DN (l:List ANode) (key:List UInt8) (h:l.length*88≤140737488351232) :
    ab Tryz.prog [] 130 [.d (.sl 9 (l.map ANode.row)),S key,.d (.sc (.func (.func 131) #[] #[]))]
      (ret (.tup [I (bsN (l.map ANode.path) key),B (g9 (l.map ANode.path) key)])):=by
  have hn:∀ k,(l.map ANode.path).getD k []=(l.getD k default).path:=fun k=>fY ANode.path l k default
  refine zJ Tryz.func130 Tryz.ntmps130 Tryz.results130 ?_;simp only [go_sem]
  (refine zW qw zn trivial (z1 ?_)<;>(repeat with_reducible intro hc))
  refine AWP.loopS (ι:=Nat×Nat×Nat) (fun v=>v.2.1≤v.2.2∧v.2.2≤l.length∧v.2.2 - v.2.1≤v.1∧bsI (ltN (l.map ANode.path) key) v.1 v.2.1 v.2.2=bsN (l.map ANode.path) key) (fun v=>v.1) [0,1,2,8] (fun v=>[(9,I v.2.1),(10,I v.2.2)]) (l.length,0,l.length) ?_ (by simp (disch:=omega) only [go_sem,aa,true_and]) ?_
  · refine ⟨by simp,by simp,by simp,?_⟩
    unfold bsN;simp only [List.length_map]
  intro ⟨f,i,j⟩ ⟨h1,h2,h3,h4⟩
  simp only at h1 h2 h3 h4
  simp only [go_sem]
  (repeat' first
| (with_reducible refine AR.f ?_)
| refine ap (by decide) ?_
| (with_reducible refine AWP.cond rfl ?_ ?_<;>intro hc<;>(try simp only [hcs,beq_iff_eq,ge_iff_le,gt_iff_lt] at hc))
| ((first | ((first | (with_reducible first | refine zR ?_ | refine zQ (by decide +kernel) ?_ | refine zD (by decide +kernel) ?_ | refine zE (by decide +kernel) ?_ | refine zG (by decide +kernel) ?_));intro K hK) | ((first | refine acallH_sc (treeCmp_c _ _) rfl rfl ?_ ?_ ?_ | refine acallQ_sc (treeCmp_c _ _) rfl rfl ?_ ?_ ?_);iterate 2 (focus ((try simp (disch:=omega) only [go_sem,aa,kj])<;>(try omega)<;>fail))) | ((first | refine zX (treeCmp_c _ _) rfl ?_ ?_);(focus ((try simp (disch:=omega) only [go_sem,aa,kj])<;>(try omega)<;>fail))) | ((first | (with_reducible refine aunder_i ?_ ?_<;>intro hg) | with_reducible intro hg)<;>(first | (exfalso;simp at hg;done) | (have hg':=hg;(try simp only [hcs,beq_iff_eq,ge_iff_le,gt_iff_lt] at hg');(try simp only [hg])))))<;>(try simp (disch:=omega) only [go_sem,aa,kj])<;>(repeat' with_reducible refine And.intro ?_ ?_)<;>(try (with_reducible refine hK _ ?_;clear hK K)))
| omega)
  · rw [iQ] at hc
    obtain ⟨g,rfl⟩:∃ g,f=g+1:=⟨f - 1,by omega⟩
    have hlt:ltN (l.map ANode.path) key ((i+j) / 2)=true:=by unfold ltN;rw [decide_eq_true_eq,hn];exact hc
    rw [F4 (by omega) hlt] at h4
    refine ⟨(g,(i+j) / 2+1,j),⟨by simp only;omega,h2,by simp only;omega,h4⟩,by simp only;omega,?_⟩
    exact zSm trivial
  · have hc2:¬ nv (l.getD ((i+j) / 2) default).path key < 0:=by omega
    rw [iQ,←hn] at hc2
    obtain ⟨g,rfl⟩:∃ g,f=g+1:=⟨f - 1,by omega⟩
    have hlt:¬ ltN (l.map ANode.path) key ((i+j) / 2)=true:=by unfold ltN;rw [decide_eq_true_eq];exact hc2
    rw [HZ (by omega) hlt] at h4
    refine ⟨(g,i,(i+j) / 2),⟨by simp only;omega,by simp only;omega,by simp only;omega,h4⟩,by simp only;omega,?_⟩
    exact zSm trivial
  all_goals
    have e0:i=j:=by omega
    subst e0
    rw [Ci] at h4
    (refine zE2 (zx @h4 @g9.eq_1) ?_;(try simp (disch:=omega) only [go_sem,aa,h4,g9,I,B,S,zj]))
    simp only [←h4,g9,List.length_map,hn,vS]
    simp at hg;simp;try omega
end Go.Proofs.YtjcooccnfkfjhaaGreatDoor
