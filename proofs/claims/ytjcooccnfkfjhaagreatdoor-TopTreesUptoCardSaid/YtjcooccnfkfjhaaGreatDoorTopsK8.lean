/- A part of what Tops leans on: texts of this claim, one behind the other. No condition. -/
import Derived.Test.YtjcooccnfkfjhaaGreatDoorTopsK7
namespace Go.Proofs.YtjcooccnfkfjhaaGreatDoor
set_option linter.unusedVariables false
set_option linter.unusedSimpArgs false
open Go Go.RowKit
set_option maxRecDepth 100000
def ka (l:List AWatch) (w:AWatch):List AWatch×Int:=
  if w.kind≠1∧w.kind≠2 then ([],4) else if ¬ bF w.path=true then ([],2) else if w.session < 1∨2147483647 < w.session then ([],3)
  else if w∈l then (l,0) else if 400≤l.length then ([],6) else (l++[w],0)
def kA (l:List AWatch) (s:Int):List AWatch:=l.filter fun w=>decide (w.session≠s)
def AP (l:List AWatch) (w:AWatch):Int:=if w∈l then (l.findIdx (fun x=>decide (x=w)):Nat) else -1
theorem Ji {l:List AWatch} {w:AWatch} {k:Nat} (hk:k < l.length) (h:l.getD k default=w) (hno:∀ j,j < k→l.getD j default≠w):AP l w=k:=by
  have hg:∀ j,(hj:j < l.length)→l.getD j default=l[j]:=fun j hj=>by rw [List.getD_eq_getElem?_getD,List.getElem?_eq_getElem hj];rfl
  unfold AP
  rw [if_pos (by rw [←h,hg k hk];exact List.getElem_mem hk)]
  congr 1
  rw [List.findIdx_eq hk]
  refine ⟨by rw [decide_eq_true_eq,←hg k hk];exact h,fun j hj=>?_⟩
  rw [decide_eq_false_iff_not,←hg j (by omega)]
  exact hno j hj
theorem Km {l:List AWatch} {w:AWatch} (hno:∀ j,j < l.length→l.getD j default≠w):AP l w=-1∧¬ w∈l:=by
  have h:¬ w∈l:=fun hm=>by
    obtain ⟨j,hj,e⟩:=List.getElem_of_mem hm
    exact hno j hj (by rw [List.getD_eq_getElem?_getD,List.getElem?_eq_getElem hj];exact e)
  exact ⟨by unfold AP;rw [if_neg h],h⟩
theorem J1 (l:List AWatch) (w:AWatch):decide (0≤AP l w)=decide (w∈l):=by
  unfold AP;split
  · rw [decide_eq_true (by omega)];symm;rw [decide_eq_true_eq];assumption
  · rw [decide_eq_false (by omega)];symm;rw [decide_eq_false_iff_not];assumption
theorem Pw (l:List AWatch) (w:AWatch) (h:l.length*32≤140737488351232):ab Tryz.prog [] 231 [.d (.sl 3 (l.map AWatch.row)),w.av] (ret (I (AP l w))):=by
  refine zJ Tryz.func231 Tryz.ntmps231 Tryz.results231 ?_;simp only [go_sem]
  (refine zW qw zn trivial (z1 ?_)<;>(repeat with_reducible intro hc))
  refine AWP.loopB (ι:=Nat) (fun k=>k≤l.length∧∀ j,j < k→l.getD j default≠w) (fun k=>l.length - k) [0,3,7] (fun k=>[(8,I k)]) (fun k=>[.cells [I w.session,I w.kind,.d (.str w.path)]]) 0 ?_ ?_ ?_
  · exact ⟨by omega,by omega⟩
  · simp only [go_sem];exact zSm trivial
  intro k ⟨hk,hk2⟩
  simp only [go_sem]
  (refine zW qw zn @AWatch.rgetD (z3 ?_ ?_ ?_)<;>(repeat with_reducible intro hc))
  · rw [Ji (by assumption) hc.symm hk2];exact zEe trivial
  · refine ⟨k+1,⟨by omega,fun j hj=>?_⟩,by omega,?_⟩
    · by_cases e:j=k
      · subst e;exact fun h=>hc h.symm
      · exact hk2 j (by omega)
    exact zSm trivial
  · rw [(Km (fun j hj=>hk2 j (by omega))).1];exact zEe trivial
theorem xL (l:List AWatch) (w:AWatch) (h:l.length*32≤140737488351232):ab Tryz.prog [] 179 [.d (.sl 3 (l.map AWatch.row)),w.av] (ret (B (decide (w∈l)))):=by
  refine zJ Tryz.func179 Tryz.ntmps179 Tryz.results179 ?_;simp only [go_sem]
  (refine zW qw (z1 (Pw l w h)) trivial (z1 ?_)<;>(repeat with_reducible intro hc))
  exact zEe @J1
theorem qN (l:List AWatch) (s:Int) (k:Nat) (h:k < l.length):kA (l.take (k+1)) s=if (l.getD k default).session≠s then kA (l.take k) s++[l.getD k default] else kA (l.take k) s:=by
  have:l.take (k+1)=l.take k++[l.getD k default]:=cm l k h
  rw [this];unfold kA
  rw [List.filter_append]
  split
  · rw [List.filter_cons_of_pos (by simpa using (by assumption:_≠_))];rfl
  · rw [List.filter_cons_of_neg (by simpa using (by assumption:¬ _≠_)),List.filter_nil,List.append_nil]
theorem Dk (s:Int):kA [] s=[]:=rfl
theorem LH (l:List AWatch) (s:Int) (h:l.length*32≤140737488351232):ab Tryz.prog [] 186 [.d (.sl 3 (l.map AWatch.row)),I s] (ret (.d (.sl 3 ((kA l s).map AWatch.row)))):=by
  refine zJ Tryz.func186 Tryz.ntmps186 Tryz.results186 ?_;simp only [go_sem]
  (refine zW qw zn trivial (z1 ?_)<;>(repeat with_reducible intro hc))
  refine AWP.weaken (aG.nilOwn 5 3 rfl) ?_
  simp only [go_sem]
  refine AWP.loopB (ι:=Nat) (fun k=>k≤l.length) (fun k=>l.length - k) [1,8,9] (fun k=>[(10,I k),(5,.osl 0 3 0 (kA (l.take k) s).length)]) (fun k=>[.rows 3 ((kA (l.take k) s).map AWatch.row)]) 0 ?_ ?_ ?_
  · omega
  · simp only [go_sem,Dk];exact zSm trivial
  intro k hk
  have hol:(kA (l.take k) s).length≤k:=Nat.le_trans (List.length_filter_le _ _) (List.length_take_le _ _)
  simp only [go_sem]
  (refine zW qw zn (zx @AWatch.rgetD (zx @eo @AWatch.rsnoc)) (z3 ?_ ?_ ?_)<;>(repeat with_reducible intro hc))
  · refine ⟨k+1,by omega,by omega,?_⟩
    rw [qN _ _ _ (by assumption),if_pos hc]
    exact zFr [3] @List.length_append.{0}
  · refine ⟨k+1,by omega,by omega,?_⟩
    rw [qN _ _ _ (by assumption),if_neg (by simpa using hc)]
    exact zFr [0] trivial
  · have e:k=l.length:=by omega
    subst e
    simp only [List.take_length]
    exact zEe trivial
theorem CG {l:List AWatch} {w:AWatch} (h:w.kind≠1∧w.kind≠2):ka l w=([],4):=by unfold ka;rw [if_pos h]
theorem CD {l:List AWatch} {w:AWatch} (h1:¬ (w.kind≠1∧w.kind≠2)) (h2:bF w.path=false):ka l w=([],2):=by unfold ka;rw [if_neg h1,if_pos (by rw [h2];decide)]
theorem DK {l:List AWatch} {w:AWatch} (h1:¬ (w.kind≠1∧w.kind≠2)) (h2:bF w.path=true):ka l w=if w.session < 1∨2147483647 < w.session then ([],3) else if w∈l then (l,0) else if 400≤l.length then ([],6) else (l++[w],0):=by unfold ka;rw [if_neg h1,if_neg (by rw [h2];decide)]
theorem vh (l:List AWatch) (w:AWatch):l.map AWatch.row++[w.row]=(l++[w]).map AWatch.row:=by rw [List.map_append];rfl
theorem Nw (l:List AWatch) (w:AWatch) (h:l.length*32≤140737488351232) (hw:okS w.path):ab Tryz.prog [] 111 [.d (.sl 3 (l.map AWatch.row)),w.av] (ret (.tup [.d (.sl 3 ((ka l w).1.map AWatch.row)),I (ka l w).2])):=by
  refine zJ Tryz.func111 Tryz.ntmps111 Tryz.results111 ?_;simp only [go_sem]
  (refine zW qw (z2 (good_c w.path hw) (xL l w h)) trivial (zc ?_ (zc ?_ (z4 ?_ ?_ ?_ ?_)))<;>(repeat with_reducible intro hc))
  · rw [CG hc];exact zEe trivial
  · rw [CD (by omega) hc];exact zEe trivial
  all_goals (have hk:¬ (w.kind≠1∧w.kind≠2):=by omega)
  all_goals rw [DK hk (by assumption)]
  · rw [if_pos hc];exact zEe trivial
  all_goals rw [if_neg (by omega)]
  · rw [if_pos hc];exact zEe trivial
  all_goals rw [if_neg (by assumption)]
  · rw [if_pos (by omega)];exact zEe trivial
  · rw [if_neg (by omega)];(refine zF rfl ?_ ?_ ?_ ?_;(iterate 3 (focus ((try simp (disch:=omega) only [go_sem,aa,AWatch.rsnoc,vh])<;>(try omega)<;>fail)));(try simp (disch:=omega) only [go_sem,aa,AWatch.rsnoc,vh,I,B,S,zj]))
    exact Or.inl (List.take_of_length_le (by simp))
theorem oK {s:List UInt8} (h:bF s=true):s.length≤200:=by
  unfold bF at h
  rw [Bool.or_eq_true,decide_eq_true_eq,Bool.and_eq_true,decide_eq_true_eq] at h
  rcases h with h | h
  · subst h;decide
  · exact h.1
theorem Ai {s:List UInt8} (h:bc s=true):s.length≤40:=by
  unfold bc at h
  rw [Bool.and_eq_true,Bool.and_eq_true,decide_eq_true_eq] at h
  have:=h.2.2;omega
def jA (dir name:List UInt8):List UInt8:=if dir=[47] then 47::name else dir++47::name
def ez (dir name:List UInt8):List UInt8×Int:=if bF dir=true∧bc name=true then (if 200 < (jA dir name).length then ([],1) else (jA dir name,0)) else ([],2)
theorem px {dir name:List UInt8} (h:¬ (bF dir=true∧bc name=true)):ez dir name=([],2):=by unfold ez;rw [if_neg h]
theorem qY {dir name:List UInt8} (h1:bF dir=true) (h2:bc name=true) (h:200 < (jA dir name).length):ez dir name=([],1):=by unfold ez;rw [if_pos ⟨h1,h2⟩,if_pos h]
theorem xx {dir name:List UInt8} (h1:bF dir=true) (h2:bc name=true) (h:(jA dir name).length≤200):ez dir name=(jA dir name,0):=by unfold ez;rw [if_pos ⟨h1,h2⟩,if_neg (by omega)]
theorem nj (name:List UInt8):jA [47] name=47::name:=by unfold jA;rw [if_pos rfl]
theorem ru {dir:List UInt8} (h:¬ dir=[47]) (name:List UInt8):jA dir name=dir++47::name:=by unfold jA;rw [if_neg h]
theorem GR (dir name:List UInt8) (hd:okS dir) (hn:okS name):ab Tryz.prog [] 227 [S dir,S name] (ret (.tup [S (ez dir name).1,I (ez dir name).2])):=by
  have hn':=hn
  unfold okS at hn'
  by_cases h1:bF dir=true
  case neg=>
    rw [px (fun h=>h1 h.1)]
    refine zJ Tryz.func227 Tryz.ntmps227 Tryz.results227 ?_;simp only [go_sem]
    (refine zW qw (z1 ((good_c dir hd).re (congrArg B (eq_false_of_ne_true h1)))) trivial (z1 ?_)<;>(repeat with_reducible intro hc))
    exact zEe trivial
  by_cases h2:bc name=true
  case neg=>
    rw [px (fun h=>h2 h.2)]
    refine zJ Tryz.func227 Tryz.ntmps227 Tryz.results227 ?_;simp only [go_sem]
    (refine zW qw (z2 ((good_c dir hd).re (by rw [h1])) ((gD name hn).re (congrArg B (eq_false_of_ne_true h2)))) trivial (z1 ?_)<;>(repeat with_reducible intro hc))
    exact zEe trivial
  have g1:=oK h1
  have g2:=Ai h2
  refine zJ Tryz.func227 Tryz.ntmps227 Tryz.results227 ?_;simp only [go_sem]
  (refine zW qw (z2 ((good_c dir hd).re (by rw [h1])) ((gD name hn).re (by rw [h2]))) (zx @List.append_assoc.{0} (zx @List.cons_append.{0} (zx @List.nil_append.{0} @List.singleton_append.{0}))) (z3 ?_ ?_ ?_)<;>(repeat with_reducible intro hc))
  all_goals rcases Decidable.em (dir=[47]) with e | e
  all_goals first
    | (exfalso;simp_all;done)
    | (have hl:200 < (jA dir name).length:=by (first | rw [e,nj,List.length_cons] | rw [ru e,List.length_append,List.length_cons])<;>(try simp [e] at hc)<;>omega
       rw [qY h1 h2 hl];exact zEe trivial)
    | (have hl:(jA dir name).length≤200:=by (first | rw [e,nj,List.length_cons] | rw [ru e,List.length_append,List.length_cons])<;>(try simp [e] at hc)<;>omega
       rw [xx h1 h2 hl];(first | rw [e,nj] | rw [ru e]);exact zEe (zx @List.cons_append.{0} @List.nil_append.{0}))
theorem uY (j n:Nat):vH (j+1) n=dig (n / 10 ^ j)::vH j n:=by
  unfold vH
  rw [List.range_succ_eq_map,List.map_cons,List.map_map]
  congr 1
  refine List.map_congr_left fun i _=>?_
  show dig (n / 10 ^ (j+1 - 1 - (i+1)))=dig (n / 10 ^ (j - 1 - i))
  rw [show j+1 - 1 - (i+1)=j - 1 - i from by omega]
theorem xd (k n:Nat):(vH k n).length=k:=by simp [vH]
theorem vb {j n:Nat} (h:n / 10 ^ j=0):∀ m,vH (j+m) n=List.replicate m 48++vH j n
  | 0=>rfl
  | m+1=>by
    have e:n / 10 ^ (j+m)=0:=by rw [Nat.pow_add,←Nat.div_div_eq_div_mul,h,Nat.zero_div]
    rw [←Nat.add_assoc,uY,vb h m,e,List.replicate_succ];rfl
def rT (name:List UInt8) (n:Nat):List UInt8:=name++vH 10 n
def fm (name:List UInt8) (n:Int):List UInt8×Int:=if n < 0∨2147483647 < n then ([],3) else if bc (rT name n.toNat)=true then (rT name n.toNat,0) else ([],2)
def serB (name:List UInt8) (n j:Nat):List UInt8:=name++(List.replicate (10 - j) 48++vH j n)
theorem rO (name:List UInt8) (n j:Nat) (h:j≤10):(serB name n j).length=name.length+10:=by
  unfold serB;rw [List.length_append,List.length_append,List.length_replicate,xd];omega
theorem Fu (name:List UInt8) (n j:Nat) (h:j < 10):(serB name n j).set (name.length+9 - j) (dig (n / 10 ^ j))=serB name n (j+1):=by
  unfold serB
  rw [show 10 - j=(10 - (j+1))+1 from by omega,List.replicate_succ',uY,List.append_assoc,List.set_append_right _ _ (by omega),List.set_append_right _ _ (by simp;omega)]
  rw [List.length_replicate,show name.length+9 - j - name.length - (10 - (j+1))=0 from by omega];rfl
theorem Hy (name:List UInt8) (n j:Nat) (h:n / 10 ^ j=0) (hj:j≤10):serB name n j=rT name n:=by
  unfold serB rT
  rw [←vb h,show j+(10 - j)=10 from by omega]
theorem Gj {name:List UInt8} {n:Int} (h:n < 0∨2147483647 < n):fm name n=([],3):=by unfold fm;rw [if_pos h]
theorem JB {name:List UInt8} {n:Nat} (h:n≤2147483647) (h2:bc (rT name n)=true):fm name n=(rT name n,0):=by unfold fm;rw [if_neg (by omega)];exact if_pos h2
theorem J8 {name:List UInt8} {n:Nat} (h:n≤2147483647) (h2:¬ bc (rT name n)=true):fm name n=([],2):=by unfold fm;rw [if_neg (by omega)];exact if_neg h2
theorem tN (name:List UInt8) (n:Nat):name++[48,48,48,48,48,48,48,48,48,48]=serB name n 0:=rfl
theorem Ek {l:List UInt8} {n:Nat} (h:l.length=n):List.take n (l.map aD)=l.map aD:=List.take_of_length_le (by rw [List.length_map];omega)
theorem sT (name:List UInt8) (n:Int) (hn:name.length≤1048576) (hi:okI n):ab Tryz.prog [] 226 [S name,I n] (ret (.tup [S (fm name n).1,I (fm name n).2])):=by
  unfold okI at hi
  by_cases hb:n < 0∨2147483647 < n
  · rw [Gj hb]
    refine zJ Tryz.func226 Tryz.ntmps226 Tryz.results226 ?_;simp only [go_sem]
    (refine zW qw zn trivial (z1 ?_)<;>(repeat with_reducible intro hc))
    all_goals first | omega | skip
    all_goals exact zEe trivial
  obtain ⟨m,rfl⟩:=Int.eq_ofNat_of_zero_le (a:=n) (by omega)
  have hm:m≤2147483647:=by omega
  refine zJ Tryz.func226 Tryz.ntmps226 Tryz.results226 ?_;simp only [go_sem]
  (refine zW qw zn (zx @tN (zx @rO @Nat.zero_le)) (z1 ?_)<;>(repeat with_reducible intro hc))
  have hlz:=rO name m 0 (by omega)
  refine AWP.loopB (ι:=Nat) (fun j=>j≤10) (fun j=>10 - j) [6] (fun j=>[(1,I ((m / 10 ^ j:Nat):Int)),(7,I ((name.length:Int)+9 - j))]) (fun j=>[.bytes (serB name m j)]) 0 ?_ ?_ ?_
  · omega
  · simp only [go_sem];(refine aG.same ?_;simp (disch:=omega) only [go_sem,aa,Int.natCast_add,tN,Nat.pow_zero,Nat.div_one]);congr 2;omega
  intro j hj
  have hl:=rO name m j hj
  have hq:m / 10 ^ j≤2147483647:=Nat.le_trans (Nat.div_le_self _ _) hm
  simp only [go_sem]
  by_cases h0:m / 10 ^ j=0
  · have he:=Hy name m j h0 hj
    rw [he] at hl
    have hk:=Ek hl
    rw [he,h0]
    have hq:okS (rT name m):=by unfold okS;omega
    (refine zW qw (z1 (gD (rT name m) hq)) @hk (z2 ?_ ?_)<;>(repeat with_reducible intro hc))
    · rw [J8 hm (by rw [hc];decide)];exact zEe @hk
    · rw [JB hm hc];exact zEe @hk
  have hj10:j < 10:=by
    refine Nat.lt_of_le_of_ne hj fun e=>h0 ?_
    subst e;exact Nat.div_eq_of_lt (by omega)
  have hd:=(dig (m / 10 ^ j)).toNat_lt
  (repeat' first
| (with_reducible refine AR.f ?_)
| refine an (by decide) ?_
| (with_reducible refine AWP.cond rfl ?_ ?_<;>intro hc<;>(try simp only [hcs,beq_iff_eq,ge_iff_le,gt_iff_lt] at hc))
| ((first | ((first | (with_reducible first | refine zR ?_ | refine zQ (by decide +kernel) ?_ | refine zD (by decide +kernel) ?_ | refine zE (by decide +kernel) ?_ | refine zG (by decide +kernel) ?_));intro K hK) | ((first | (with_reducible refine aunder_i ?_ ?_<;>intro hg) | with_reducible intro hg)<;>(first | (exfalso;simp at hg;done) | (have hg':=hg;(try simp only [hcs,beq_iff_eq,ge_iff_le,gt_iff_lt] at hg');(try simp only [hg])))))<;>(try simp (disch:=omega) only [go_sem,aa,Lw,LX,FI,DB,UInt8.ofNat_toNat])<;>(repeat' with_reducible refine And.intro ?_ ?_)<;>(try (with_reducible refine hK _ ?_;clear hK K)))
| omega)
  all_goals first | omega | skip
  · refine ⟨j+1,by omega,by omega,?_⟩
    rw [show ((name.length:Int)+9 - j).toNat=name.length+9 - j from by omega,Fu name m j hj10,Nat.pow_succ,←Nat.div_div_eq_div_mul]
    (refine aG.same ?_;simp (disch:=omega) only [go_sem,aa,Int.natCast_add])
    congr 2;omega
  all_goals exact absurd (Nat.le_zero.1 (Int.ofNat_le.1 hc)) h0
theorem qWe1:Pls [Plan.takes [0,1,2,4] (.fork 3 (Plan.takes [5,6,7] .done) 5 (Plan.takes [3,6,7] .done))]:=pls _
def byteAt (k:Nat) (v:Int):UInt8:=UInt8.ofNat ((v / 2 ^ (8*k)) % 256).toNat
def beB:Nat→Int→List UInt8
  | 0,_=>[]
  | n+1,v=>byteAt n v::beB n v
theorem beB_len (v:Int):∀ n,(beB n v).length=n
  | 0=>rfl
  | n+1=>by rw [beB,List.length_cons,beB_len v n]
theorem rE (v:Int):∀ (n j:Nat),j < n→(beB n v).take (n - j)=(beB n v).take (n - (j+1))++[byteAt j v]
  | 0,j,h=>by omega
  | n + 1,j,h=>by
    by_cases e:j=n
    · subst e
      rw [show j+1 - j=1 from by omega,Nat.sub_self];rfl
    · rw [beB,show n+1 - j=(n - j)+1 from by omega,show n+1 - (j+1)=(n - (j+1))+1 from by omega,List.take_succ_cons,List.take_succ_cons,rE v n j (by omega)];rfl
theorem KU (x:Int):IntKind.u8.wrap x=((UInt8.ofNat (x % 256).toNat).toNat:Int):=by
  rw [UInt8.toNat_ofNat']
  simp [IntKind.wrap,IntKind.bits,IntKind.signed];omega
theorem wu (j:Nat) (v:Int):IntKind.u8.wrap (v / 2 ^ (8*j))=((byteAt j v).toNat:Int):=KU _
theorem C9 (l:List UInt8) (v:Int) (n:Nat) (hn:n≤8) (hl:l.length≤1048576):ab Tryz.prog [.rows 1 (l.map aD)] 257 [.osl 0 1 0 l.length,I v,I n] (cu (.osl 1 1 0 (l.length+n)) [.dead,.rows 1 ((l++beB n v).map aD)]):=by
  refine zJ Tryz.func257 Tryz.ntmps257 Tryz.results257 ?_;simp only [go_sem]
  refine AWP.weaken (aG.moveOwn 0 rfl rfl (by simp)) ?_
  simp only [go_sem]
  (refine zW qw zn trivial (z1 ?_)<;>(repeat with_reducible intro hc))
  refine AWP.loopB (ι:=Nat) (fun j=>j≤n) (fun j=>j) [1] (fun j=>[(0,.osl 1 1 0 (l.length+(n - j))),(7,I ((j:Int) - 1))]) (fun j=>[.dead,.rows 1 ((l++(beB n v).take (n - j)).map aD)]) n ?_ ?_ ?_
  · omega
  · simp only [go_sem,Nat.sub_self,List.take_zero,List.append_nil,Nat.add_zero];exact zSm trivial
  intro j hj
  rcases j with _ | j
  · simp only [go_sem]
    (refine zW qw zn trivial (z1 ?_)<;>(repeat with_reducible intro hc))
    rw [Nat.sub_zero,List.take_of_length_le (by rw [beB_len];omega)]
    (refine zO ?_ ?_;(focus ((try simp (disch:=omega) only [go_sem,aa])<;>fail));simp (disch:=omega) only [go_sem,aa];refine ag.of_simp ?_ (ag.same ⟨rfl,rfl⟩);refine zV [0,1] rfl rfl rfl rfl ?_ ?_<;>simp (disch:=omega) only [go_sem,aa,true_or,or_true])
  rw [show ((j+1:Nat):Int) - 1=j from by omega]
  simp only [go_sem]
  have hw:IntKind.u64.wrap (8*(j:Int))=8*j:=by simp [IntKind.wrap,IntKind.bits,IntKind.signed];omega
  have hw2:(8*(j:Int)).toNat=8*j:=by omega
  have hle:(l++(beB n v).take (n - (j+1))).length=l.length+(n - (j+1)):=by rw [List.length_append,List.length_take,beB_len];omega
  have hk:List.take (l.length+(n - (j+1))) ((l++(beB n v).take (n - (j+1))).map aD)=(l++(beB n v).take (n - (j+1))).map aD:=List.take_of_length_le (by rw [List.length_map];omega)
  (refine zW qw zn (zx @hw (zx @hw2 @hk)) (z2 ?_ ?_)<;>(repeat with_reducible intro hc))
  · simp [beB_len]
  refine ⟨j,by omega,by omega,?_⟩
  rw [rE v n j (by omega),←List.append_assoc,List.map_append (l₁:=l++_),show n - j=n - (j+1)+1 from by omega]
  exact zFr [0,3] (zx @hw (zx @hw2 (zx @hk (zx @wu (zx @List.map_cons.{0,0} (zx @List.map_nil.{0,0} (zx @aD.eq_1 @Nat.add_assoc)))))))
theorem ut (v:Int) (n:Nat) (hn:n≤8):ab Tryz.prog [] 257 [.d (.sc (.slice none 0 0)),I v,I n] (cu (.osl 0 1 0 n) [.rows 1 ((beB n v).map aD)]):=by
  refine zJ Tryz.func257 Tryz.ntmps257 Tryz.results257 ?_;simp only [go_sem]
  refine AWP.weaken (aG.nilOwn 0 1 rfl) ?_
  simp only [go_sem]
  (refine zW qw zn trivial (z1 ?_)<;>(repeat with_reducible intro hc))
  refine AWP.loopB (ι:=Nat) (fun j=>j≤n) (fun j=>j) [1] (fun j=>[(0,.osl 0 1 0 (n - j)),(7,I ((j:Int) - 1))]) (fun j=>[.rows 1 (((beB n v).take (n - j)).map aD)]) n ?_ ?_ ?_
  · omega
  · simp only [go_sem,Nat.sub_self,List.take_zero,List.map_nil];exact zSm trivial
  intro j hj
  rcases j with _ | j
  · simp only [go_sem]
    (refine zW qw zn trivial (z1 ?_)<;>(repeat with_reducible intro hc))
    rw [Nat.sub_zero,List.take_of_length_le (by rw [beB_len];omega)]
    (refine zO ?_ ?_;(focus ((try simp (disch:=omega) only [go_sem,aa])<;>fail));simp (disch:=omega) only [go_sem,aa];refine ag.of_simp ?_ (ag.same ⟨rfl,rfl⟩);refine zV [0] rfl rfl rfl rfl ?_ ?_<;>simp (disch:=omega) only [go_sem,aa,true_or,or_true])
  rw [show ((j+1:Nat):Int) - 1=j from by omega]
  simp only [go_sem]
  have hw:IntKind.u64.wrap (8*(j:Int))=8*j:=by simp [IntKind.wrap,IntKind.bits,IntKind.signed];omega
  have hw2:(8*(j:Int)).toNat=8*j:=by omega
  have hk:List.take (n - (j+1)) (((beB n v).take (n - (j+1))).map aD)=((beB n v).take (n - (j+1))).map aD:=List.take_of_length_le (by rw [List.length_map,List.length_take];omega)
  (refine zW qw zn (zx @hw (zx @hw2 @hk)) (z2 ?_ ?_)<;>(repeat with_reducible intro hc))
  · simp [beB_len]
  refine ⟨j,by omega,by omega,?_⟩
  rw [rE v n j (by omega),List.map_append,show n - j=n - (j+1)+1 from by omega]
  exact zFr [2] (zx @hw (zx @hw2 (zx @hk (zx @wu (zx @List.map_cons.{0,0} (zx @List.map_nil.{0,0} (zx @aD.eq_1 @Nat.add_assoc)))))))
theorem put_own_at (l:List UInt8) (v:Int) (n m k:Nat) (ni:Int) (hn:n≤8) (hl:l.length≤1048576) (hm:l.length=m) (hk:m+n=k) (hi:ni=n):ab Tryz.prog [.rows 1 (l.map aD)] 257 [.osl 0 1 0 m,I v,I ni] (cu (.osl 1 1 0 k) [.dead,.rows 1 ((l++beB n v).map aD)]):=by
  subst hm;subst hk;subst hi;exact C9 l v n hn hl
theorem Cd (v:Int):IntKind.u8.wrap v=((byteAt 0 v).toNat:Int):=by rw [←wu 0 v];simp
def b5 (t:ATxn):List UInt8:=(beB 8 t.zxid++[byteAt 0 t.op])++beB 4 t.session
def b6 (t:ATxn):List UInt8:=(b5 t++beB 4 t.version)++beB 4 t.owner
def b7 (t:ATxn):List UInt8:=(b6 t++[byteAt 0 t.path.length])++t.path
def bC (t:ATxn):List UInt8:=(b7 t++beB 2 t.data.length)++t.data
theorem m8 (t:ATxn):(b5 t).length=13:=by simp [b5,beB_len]
theorem oH (t:ATxn):(b6 t).length=21:=by simp [b6,m8,beB_len]
theorem b7_len (t:ATxn):(b7 t).length=22+t.path.length:=by simp [b7,oH];omega
theorem eq (t:ATxn):(bC t).length=24+t.path.length+t.data.length:=by simp [bC,b7_len,beB_len];omega
def dD (t:ATxn):List UInt8:=([84]++beB 2 (bC t).length)++bC t
theorem jo (t:ATxn):(dD t).length=27+t.path.length+t.data.length:=by unfold dD;simp only [List.length_append,eq,beB_len,List.length_cons,List.length_nil];omega
def pE (t:ATxn):List UInt8:=dD t++beB 4 (nI (dD t))
theorem iC {t:ATxn} (h:aO t=0):t.path.length≤200∧t.data.length≤256:=by
  unfold aO at h
  split at h
  · cases h
  split at h
  · cases h
  split at h
  · cases h
  split at h
  · cases h
  rename_i h1 h2 h3 h4
  refine ⟨?_,by omega⟩
  unfold xD at h4
  by_cases e2:t.op≤2
  · rw [if_pos e2] at h4;simp at h4;rw [h4.1];simp
  rw [if_neg e2] at h4
  have:bF t.path=true:=by
    split at h4<;>(try split at h4)<;>simp at h4<;>exact h4.1
  exact oK this
def cL (t:ATxn):List UInt8×Int:=if aO t=0 then (pE t,0) else ([],aO t)
set_option maxHeartbeats 2000000 in
theorem sM (t:ATxn) (hp:okS t.path) (hd:okS t.data):ab Tryz.prog [] 228 [t.av] (ret (.tup [S (cL t).1,I (cL t).2])):=by
  refine zJ Tryz.func228 Tryz.ntmps228 Tryz.results228 ?_;simp only [go_sem]
  by_cases g:aO t=0
  case neg=>
    unfold cL
    rw [if_neg g]
    (refine zW qw (z1 (qx t hp hd)) trivial (z1 ?_)<;>(repeat with_reducible intro hc))
    all_goals first | omega | skip
    all_goals exact zEe trivial
  unfold cL
  rw [if_pos g]
  (refine zW qw (z2 ((qx t hp hd).re (congrArg I g)) (ut t.zxid 8 (by decide))) trivial (z1 ?_)<;>(repeat with_reducible intro hc))
  obtain ⟨s1,s2⟩:=iC g
  have l8:=beB_len t.zxid 8
  have hh:okS (dD t):=by unfold okS dD;simp only [List.length_append,eq,beB_len,List.length_cons,List.length_nil];omega
  have tk24:List.take (24+t.path.length) (List.map aD (b7 t++beB 2 (t.data.length:Int)))=List.map aD (b7 t++beB 2 (t.data.length:Int)):=List.take_of_length_le (by rw [List.length_map,List.length_append,b7_len,beB_len];omega)
  have hbr:List.map aD (bC t)=List.map aD (b7 t++beB 2 (t.data.length:Int))++List.map aD t.data:=by unfold bC;rw [List.map_append]
  have h84:(((84:UInt8).toNat:Nat):Int)=84:=rfl
  have tk22:List.take 22 (List.map aD (b6 t)++[[DV.int IntKind.u8 ((byteAt 0 (t.path.length:Int)).toNat:Int)]])=List.map aD (b6 t)++[[DV.int IntKind.u8 ((byteAt 0 (t.path.length:Int)).toNat:Int)]]:=List.take_of_length_le (by simp [oH])
  have tk (l:List UInt8) (n:Nat) (h:l.length=n):List.take n (l.map aD)=l.map aD:=List.take_of_length_le (by rw [List.length_map];omega)
  refine AWP.meetB [1] [(5,.osl 1 1 0 13)] [.cells [I t.zxid,I t.op,I t.session,S t.path,S t.data,I t.version,I t.owner],.rows 1 ((b5 t).map aD)] ?_ ?_
  · (repeat' first
  | (with_reducible refine AR.f ?_)
  | refine an (by decide) ?_
  | (with_reducible refine AWP.cond rfl ?_ ?_<;>intro hc<;>(try simp only [hcs,beq_iff_eq,ge_iff_le,gt_iff_lt] at hc))
  | ((first | ((first | refine zP ((Plan.takes [0,1,2,6] (.fork 3 (.fork 4 (.fork 5 (Plan.takes [7,8,9] .done) 7 (Plan.takes [5,8,9] .done)) 7 (Plan.takes [4,5,8,9] .done)) 7 (Plan.takes [3,4,5,8,9] .done)))) (by decide +kernel) ?_ | (with_reducible first | refine zR ?_ | refine zQ (by decide +kernel) ?_ | refine zD (by decide +kernel) ?_ | refine zE (by decide +kernel) ?_ | refine zG (by decide +kernel) ?_));intro K hK) | (refine acallH_own (put_own_at (beB 8 t.zxid++[byteAt 0 t.op]) t.session 4 9 13 4 (by decide) (by simp [beB_len]) (by simp [beB_len]) rfl rfl) ?_ ?_ ?_;(focus ((try simp (disch:=omega) only [inj,List.cons.injEq,and_self,List.nodup_cons,List.not_mem_nil,List.mem_cons,not_false_eq_true,List.nodup_nil,go_sem,aa,tk _ _ l8,List.map_append,List.map_cons,List.map_nil,Cd,aD])<;>(try omega)<;>fail));(focus ((try simp (disch:=omega) only [inj,List.cons.injEq,and_self,List.nodup_cons,List.not_mem_nil,List.mem_cons,not_false_eq_true,List.nodup_nil,go_sem,aa,tk _ _ l8,List.map_append,List.map_cons,List.map_nil,Cd,aD])<;>(try omega)<;>(try decide)<;>fail))) | ((first | (with_reducible refine aunder_i ?_ ?_<;>intro hg) | with_reducible intro hg)<;>(first | (exfalso;simp at hg;done) | (have hg':=hg;(try simp only [hcs,beq_iff_eq,ge_iff_le,gt_iff_lt] at hg');(try simp only [hg])))))<;>(try simp (disch:=omega) only [go_sem,aa,tk _ _ l8,List.map_append,List.map_cons,List.map_nil,Cd,aD])<;>(repeat' with_reducible refine And.intro ?_ ?_)<;>(try (with_reducible refine hK _ ?_;clear hK K)))
  | omega)
    all_goals exact zFr [0,4] (zx @b5.eq_1 (zx @List.map_append.{0,0} (zx @List.map_cons.{0,0} (zx @List.map_nil.{0,0} @aD.eq_1))))
  simp only [go_sem]
  refine AWP.seq (AWP.meetB [1] [(5,.osl 1 1 0 21)] [.cells [I t.zxid,I t.op,I t.session,S t.path,S t.data,I t.version,I t.owner],.rows 1 ((b6 t).map aD)] ?_ ?_)
  · (refine zW qw (z3 qWe1 (ow (put_own_at (b5 t) t.version 4 13 17 4 (by decide) (by simp [m8]) (m8 t) rfl rfl)) (ow (put_own_at (b5 t++beB 4 t.version) t.owner 4 17 21 4 (by decide) (by simp [m8,beB_len]) (by simp [m8,beB_len]) rfl rfl))) trivial (z2 ?_ ?_)<;>(repeat with_reducible intro hc))
    all_goals exact zFr [0,3] @b6.eq_1
  simp only [go_sem]
  refine AWP.seq (AWP.meetB [1] [(5,.osl 1 1 0 (22+t.path.length))] [.cells [I t.zxid,I t.op,I t.session,S t.path,S t.data,I t.version,I t.owner],.rows 1 ((b7 t).map aD)] ?_ ?_)
  · (repeat' first
  | (with_reducible refine AR.f ?_)
  | refine an (by decide) ?_
  | (with_reducible refine AWP.cond rfl ?_ ?_<;>intro hc<;>(try simp only [hcs,beq_iff_eq,ge_iff_le,gt_iff_lt] at hc))
  | ((first | ((first | refine zP ((Plan.takes [0,1,2,3,7] (.fork 4 (.fork 5 (.fork 6 (Plan.takes [8,9,10] .done) 8 (Plan.takes [6,9,10] .done)) 8 (Plan.takes [5,6,9,10] .done)) 8 (Plan.takes [4,5,6,9,10] .done)))) (by decide +kernel) ?_ | (with_reducible first | refine zR ?_ | refine zQ (by decide +kernel) ?_ | refine zD (by decide +kernel) ?_ | refine zE (by decide +kernel) ?_ | refine zG (by decide +kernel) ?_));intro K hK) | ((first | (with_reducible refine aunder_i ?_ ?_<;>intro hg) | with_reducible intro hg)<;>(first | (exfalso;simp at hg;done) | (have hg':=hg;(try simp only [hcs,beq_iff_eq,ge_iff_le,gt_iff_lt] at hg');(try simp only [hg])))))<;>(try simp (disch:=omega) only [go_sem,aa,tk _ _ (oH t),Cd])<;>(repeat' with_reducible refine And.intro ?_ ?_)<;>(try (with_reducible refine hK _ ?_;clear hK K)))
  | omega)
    all_goals first | exact Nat.le_of_eq (oH t).symm | omega | skip
    all_goals exact zFr [0,4] (zx @b7.eq_1 (zx @tk22 (zx @List.map_append.{0,0} (zx @List.map_cons.{0,0} (zx @List.map_nil.{0,0} @aD.eq_1)))))
  simp only [go_sem]
  refine AWP.seq (AWP.meetB [1] [(5,.osl 1 1 0 (bC t).length)] [.cells [I t.zxid,I t.op,I t.session,S t.path,S t.data,I t.version,I t.owner],.rows 1 ((bC t).map aD)] ?_ ?_)
  · (repeat' first
  | (with_reducible refine AR.f ?_)
  | refine an (by decide) ?_
  | (with_reducible refine AWP.cond rfl ?_ ?_<;>intro hc<;>(try simp only [hcs,beq_iff_eq,ge_iff_le,gt_iff_lt] at hc))
  | ((first | ((first | refine zP ((Plan.takes [0,1,2,3,5] (.fork 4 (Plan.takes [6,7,8] .done) 6 (Plan.takes [4,7,8] .done)))) (by decide +kernel) ?_ | (with_reducible first | refine zR ?_ | refine zQ (by decide +kernel) ?_ | refine zD (by decide +kernel) ?_ | refine zE (by decide +kernel) ?_ | refine zG (by decide +kernel) ?_));intro K hK) | (refine acallH_own (put_own_at (b7 t) t.data.length 2 (22+t.path.length) (24+t.path.length) 2 (by decide) (by rw [b7_len];omega) (b7_len t) (by omega) rfl) ?_ ?_ ?_;(focus ((try simp (disch:=omega) only [inj,List.cons.injEq,and_self,List.nodup_cons,List.not_mem_nil,List.mem_cons,not_false_eq_true,List.nodup_nil,go_sem,aa,eq])<;>(try omega)<;>fail));(focus ((try simp (disch:=omega) only [inj,List.cons.injEq,and_self,List.nodup_cons,List.not_mem_nil,List.mem_cons,not_false_eq_true,List.nodup_nil,go_sem,aa,eq])<;>(try omega)<;>(try decide)<;>fail))) | ((first | (with_reducible refine aunder_i ?_ ?_<;>intro hg) | with_reducible intro hg)<;>(first | (exfalso;simp at hg;done) | (have hg':=hg;(try simp only [hcs,beq_iff_eq,ge_iff_le,gt_iff_lt] at hg');(try simp only [hg])))))<;>(try simp (disch:=omega) only [go_sem,aa,eq])<;>(repeat' with_reducible refine And.intro ?_ ?_)<;>(try (with_reducible refine hK _ ?_;clear hK K)))
  | omega)
    all_goals first | exact Nat.le_of_eq (by rw [b7_len,beB_len];omega) | skip
    all_goals exact zFr [0,3] (zx @eq (zx @hbr @tk24))
  simp only [go_sem]
  have hB:=eq t
  have tk2:List.take 2 (List.map aD (beB 2 ((bC t).length:Int)))=List.map aD (beB 2 ((bC t).length:Int)):=List.take_of_length_le (by rw [List.length_map,beB_len];decide)
  have hH:[DV.int IntKind.u8 84]::(List.map aD (beB 2 ((bC t).length:Int))++List.map aD (bC t))=List.map aD (dD t):=by unfold dD;rw [List.map_append,List.map_append];rfl
  have tkH:List.take (3+(bC t).length) (List.map aD (dD t))=List.map aD (dD t):=List.take_of_length_le (by rw [List.length_map,dD,List.length_append,List.length_append,beB_len];simp)
  have tk4 (v:Int):List.take 4 (List.map aD (beB 4 v))=List.map aD (beB 4 v):=List.take_of_length_le (by rw [List.length_map,beB_len];decide)
  (refine zW qw (z3 (ow (put_own_at [84] (bC t).length 2 1 3 2 (by decide) (by decide) rfl rfl rfl)) (K3 (dD t) hh) (ut (nI (dD t)) 4 (by decide))) (zx @List.map_cons.{0,0} (zx @List.map_nil.{0,0} (zx @h84 (zx @tk2 (zx @hH (zx @tkH @tk4)))))) (zc ?_ (z4 ?_ ?_ ?_ ?_))<;>(repeat with_reducible intro hc))
  · exact Nat.le_of_eq (beB_len _ _).symm
  · exact Nat.le_of_eq (by rw [jo];omega)
  · exact Nat.le_of_eq (beB_len _ _).symm
  · rw [jo,beB_len];omega
  · exact zEe @pE.eq_1
def ay (l:List ATxn):Int:=if l=[] then 0 else (l.getD (l.length - 1) default).zxid
theorem gR:ay []=0:=rfl
theorem dK {l:List ATxn} (h:0 < l.length):ay l=(l.getD (l.length - 1) default).zxid:=by
  unfold ay;rw [if_neg (fun e=>by rw [e] at h;exact absurd h (by decide))]
theorem fN (l:List ATxn) (t:ATxn):ay (l++[t])=t.zxid:=by
  rw [dK (by simp)];simp
theorem last_c (l:List ATxn) (h:l.length*72≤140737488351232):ab Tryz.prog [] 117 [.d (.sl 7 (l.map ATxn.row))] (ret (I (ay l))):=by
  refine zJ Tryz.func117 Tryz.ntmps117 Tryz.results117 ?_;simp only [go_sem]
  (refine zW qw zn @ATxn.rgetD (z2 ?_ ?_)<;>(repeat with_reducible intro hc))
  · have e:l=[]:=List.eq_nil_of_length_eq_zero (by omega)
    rw [e,gR];exact zEe trivial
  all_goals first | omega | skip
  rw [dK (by omega)]
  have e:(((l.length:Int) - 1).toNat)=l.length - 1:=by omega
  (refine zF rfl ?_ ?_ ?_ ?_;(iterate 3 (focus ((try simp (disch:=omega) only [go_sem,aa,ATxn.rgetD,e])<;>(try omega)<;>fail)));(try simp (disch:=omega) only [go_sem,aa,ATxn.rgetD,e,I,B,S,zj]))
  all_goals trace_state
def fI (s:List UInt8):Nat→Nat→List ATxn→List ATxn×Nat
  | 0,at_,l=>(l,at_)
  | f+1,at_,l=>if (cy (s.drop at_)).2.2≠0∨(0 < l.length∧(cy (s.drop at_)).1.zxid≤ay l) then (l,at_) else fI s f (at_+(cy (s.drop at_)).2.1.toNat) (l++[(cy (s.drop at_)).1])
def scanT (s:List UInt8):List ATxn×Nat:=fI s (s.length+1) 0 []
theorem nb (s:List UInt8):((cy s).2.2≠0∧(cy s).2.1=0)∨((cy s).2.2=0∧(cy s).2.1=((sN s+7:Nat):Int)∧sN s+7≤s.length∧sN s≤1024∧aO (cy s).1=0):=by
  by_cases h1:dy s
  · rw [rr h1];left;simp
  by_cases h2:d5 s
  · rw [vF h1 h2];left;simp
  by_cases h3:iv s
  · rw [yZ h1 h2 h3];left;simp
  by_cases h4:eB (sB s)
  case neg=>rw [Bi h1 h2 h3 h4];left;simp
  by_cases h5:aO (e9 (sB s))=0
  · rw [vW h1 h2 h3 h4 h5];right
    unfold d5 at h2
    exact ⟨rfl,rfl,by omega,by omega,h5⟩
  · rw [AX h1 h2 h3 h4 h5];left;exact ⟨h5,rfl⟩
theorem ib {s:List UInt8} {f at_:Nat} {l:List ATxn} (h:(cy (s.drop at_)).2.2≠0∨(0 < l.length∧(cy (s.drop at_)).1.zxid≤ay l)):fI s f at_ l=(l,at_):=by
  cases f with
  | zero=>rfl
  | succ f=>rw [fI,if_pos h]
theorem Ee {s:List UInt8} {f at_:Nat} {l:List ATxn} (h:s.length≤at_):fI s f at_ l=(l,at_):=
  ib (.inl (by rw [rr (.inl (by rw [List.length_drop];omega))];decide))
theorem jL {s:List UInt8} {f at_ n:Nat} {l:List ATxn} (h1:(cy (s.drop at_)).2.2=0) (h2:¬ (0 < l.length∧(cy (s.drop at_)).1.zxid≤ay l)) (hn:(cy (s.drop at_)).2.1=(n:Int)):fI s (f+1) at_ l=fI s f (at_+n) (l++[(cy (s.drop at_)).1]):=by
  rw [fI,if_neg (by rintro (h | h);exact h h1;exact h2 h),hn];rfl
theorem Lr (s:List UInt8) (hs:s.length≤1048576):ab Tryz.prog [] 84 [S s] (ret (.tup [.d (.sl 7 ((scanT s).1.map ATxn.row)),I (scanT s).2])):=by
  refine zJ Tryz.func84 Tryz.ntmps84 Tryz.results84 ?_;simp only [go_sem]
  (refine zW qw zn trivial (z1 ?_)<;>(repeat with_reducible intro hc))
  refine AWP.weaken (aG.nilOwn 4 7 rfl) ?_
  simp only [go_sem]
  refine AWP.loopB (ι:=Nat×Nat×List ATxn) (fun v=>v.2.1≤s.length∧s.length < v.2.1+v.1∧v.2.2.length≤v.2.1∧fI s v.1 v.2.1 v.2.2=scanT s) (fun v=>v.1) [0] (fun v=>[(5,I v.2.1),(4,.osl 0 7 0 v.2.2.length)]) (fun v=>[.rows 7 (v.2.2.map ATxn.row)]) (s.length+1,0,[]) ?_ ?_ ?_
  · exact ⟨by simp,by simp,by simp,rfl⟩
  · simp only [go_sem];exact zSm trivial
  intro ⟨f,k,l⟩ ⟨h1,h2,h3,h4⟩
  simp only at h1 h2 h3 h4
  simp only [go_sem]
  have ed:List.take (s.length - k) (List.drop k s)=List.drop k s:=List.take_of_length_le (by rw [List.length_drop];omega)
  (repeat' first
| (with_reducible refine AR.f ?_)
| refine an (by decide) ?_
| (with_reducible refine AWP.cond rfl ?_ ?_<;>intro hc<;>(try simp only [hcs,beq_iff_eq,ge_iff_le,gt_iff_lt] at hc))
| ((first | ((first | (with_reducible first | refine zR ?_ | refine zQ (by decide +kernel) ?_ | refine zD (by decide +kernel) ?_ | refine zE (by decide +kernel) ?_ | refine zG (by decide +kernel) ?_));intro K hK) | ((first | refine zA (decode_c (s.drop k) (by rw [List.length_drop];omega)) ?_ ?_ ?_ ?_ ?_ | refine zA (last_c l (by omega)) ?_ ?_ ?_ ?_ ?_);(focus exact rfl);(focus exact rfl);iterate 2 (focus ((try simp (disch:=omega) only [go_sem,aa,ed,eo,ATxn.rsnoc])<;>(try omega)<;>fail))) | ((first | refine zN (decode_c (s.drop k) (by rw [List.length_drop];omega)) rfl ?_ ?_ | refine zX (decode_c (s.drop k) (by rw [List.length_drop];omega)) rfl ?_ ?_ | refine zY (decode_c (s.drop k) (by rw [List.length_drop];omega)) ?_ ?_ | refine zX (last_c l (by omega)) rfl ?_ ?_);(focus ((try simp (disch:=omega) only [go_sem,aa,ed,eo,ATxn.rsnoc])<;>(try omega)<;>fail))) | ((first | (with_reducible refine aunder_i ?_ ?_<;>intro hg) | with_reducible intro hg)<;>(first | (exfalso;simp at hg;done) | (have hg':=hg;(try simp only [hcs,beq_iff_eq,ge_iff_le,gt_iff_lt] at hg');(try simp only [hg])))))<;>(try simp (disch:=omega) only [go_sem,aa,ed,eo,ATxn.rsnoc])<;>(repeat' with_reducible refine And.intro ?_ ?_)<;>(try (with_reducible refine hK _ ?_;clear hK K)))
| omega)
  · rw [←h4,ib (hc.imp id fun h=>⟨by omega,h.2⟩)];exact zEe trivial
  · rcases nb (s.drop k) with ⟨q,_⟩ | ⟨q1,q2,q3,q4,_⟩
    · exact absurd hc.1 q
    rw [List.length_drop] at q3
    have q5:=jL (s:=s) (f:=f - 1) (at_:=k) (n:=sN (s.drop k)+7) (l:=l) q1 (fun h=>by omega) q2
    rw [show f - 1+1=f from by omega] at q5
    refine ⟨(f - 1,k+(sN (s.drop k)+7),l++[(cy (s.drop k)).1]),⟨by simp only;omega,by simp only;omega,by simp;omega,q5.symm.trans h4⟩,by simp only;omega,?_⟩
    exact zFr [3] (zx @q2 (zx @List.length_append.{0} @ATxn.rsnoc))
  · have hx:(cy (s.drop k)).2.2≠0∨(0 < l.length∧(cy (s.drop k)).1.zxid≤ay l):=by
      by_cases e:(cy (s.drop k)).2.2=0
      · rcases hc with h | h
        · exact .inl h
        · rw [e] at hg;simp at hg;omega
      · exact .inl e
    rw [←h4,ib hx];exact zEe trivial
  · rcases nb (s.drop k) with ⟨q,_⟩ | ⟨q1,q2,q3,q4,_⟩
    · exact absurd hc.1 q
    have hl0:l.length=0:=by rw [q1] at hg;simp at hg;rw [hg];rfl
    rw [List.length_drop] at q3
    have q5:=jL (s:=s) (f:=f - 1) (at_:=k) (n:=sN (s.drop k)+7) (l:=l) q1 (fun h=>by omega) q2
    rw [show f - 1+1=f from by omega] at q5
    refine ⟨(f - 1,k+(sN (s.drop k)+7),l++[(cy (s.drop k)).1]),⟨by simp only;omega,by simp only;omega,by simp;omega,q5.symm.trans h4⟩,by simp only;omega,?_⟩
    exact zFr [3] (zx @q2 (zx @List.length_append.{0} @ATxn.rsnoc))
  · rw [←h4,Ee (by omega)];exact zEe trivial
  all_goals trace_state
def t1:ATxn:=⟨1,1,1,[],[],0,0⟩
theorem tO (s:List UInt8):∀ (f at_:Nat) (l:List ATxn),(fI s f at_ l).1.length≤l.length+f
  | 0,_,l=>Nat.le_refl _
  | f + 1,at_,l=>by
    rw [fI]
    split
    · simp
    · have:=tO s f (at_+(cy (s.drop at_)).2.1.toNat) (l++[(cy (s.drop at_)).1])
      rw [List.length_append,List.length_singleton] at this
      omega
theorem um (s:List UInt8):(scanT s).1.length≤s.length+1:=by
  have:=tO s (s.length+1) 0 []
  simpa [scanT] using this
def logN:List UInt8:=[108,111,103]
theorem iA:okS logN:=by unfold okS;decide
theorem dc {l:List AFile} {key s:List UInt8} (hk:okS key) (hw:∀ f,f∈l→f.wf):∀ f,f∈(aR l key s).1.files→f.wf:=by
  intro f hf
  unfold aR at hf
  split at hf
  · cases hf
  · split at hf
    · cases hf
    · split at hf
      · split at hf
        · cases hf
        · obtain ⟨g1,g2,g3,g4⟩:=iJ hw (place (l.map AFile.name) key)
          rcases List.mem_or_eq_of_mem_set hf with h | h
          · exact hw f h
          · subst h
            exact ⟨g1,g3,by show okS _;unfold okS;rw [List.length_append];omega⟩
      · split at hf
        · cases hf
        · split at hf
          · cases hf
          · rename_i h1
            have hf':f∈l.insertIdx (place (l.map AFile.name) key) ⟨key,[],s⟩:=hf
            rw [List.mem_insertIdx jx] at hf'
            rcases hf' with h | h
            · subst h;exact ⟨hk,by show okS [];unfold okS;decide,by show okS s;unfold okS;omega⟩
            · exact hw f h
def cZ (l:List AFile) (t:ATxn) (safe:Bool):ADisk×Int:=
  if aO t≠0 then (default,aO t)
  else if (aR l logN (cL t).1).2≠0∨safe=false then aR l logN (cL t).1 else br (aR l logN (cL t).1).1.files logN nQ
theorem De {l:List AFile} {t:ATxn} {safe:Bool}:(cZ l t safe).1.files.length*48≤140737488351232:=by
  unfold cZ;split
  · exact (by decide:([]:List AFile).length*48≤140737488351232)
  · split
    · exact jt
    · exact uf jt
theorem B3 {t:ATxn} (h:aO t=0):okS (cL t).1∧(cL t).2=0:=by
  obtain ⟨s1,s2⟩:=iC h
  unfold cL;rw [if_pos h]
  refine ⟨?_,rfl⟩
  unfold okS pE
  simp only [List.length_append,jo,beB_len];omega
theorem Kd {t:ATxn} (h:aO t≠0):cL t=([],aO t):=by unfold cL;rw [if_neg h]
theorem FP (d:ADisk) (t:ATxn) (safe:Bool) (h:d.files.length*48≤140737488351232) (hw:∀ f,f∈d.files→f.wf) (hp:okS t.path) (hd:okS t.data):ab Tryz.prog [] 177 [d.av,t.av,B safe] (ret (.tup [(cZ d.files t safe).1.av,I (cZ d.files t safe).2])):=by
  by_cases hg:aO t=0
  case neg=>
    have he:=sM t hp hd
    rw [Kd hg] at he
    unfold cZ
    rw [if_pos hg]
    refine zJ Tryz.func177 Tryz.ntmps177 Tryz.results177 ?_;simp only [go_sem]
    (refine zW qw (z1 he) trivial (z1 ?_)<;>(repeat with_reducible intro hc))
    all_goals first | (exfalso;omega) | skip
    exact zEe dfl
  obtain ⟨e1,e2⟩:=B3 hg
  have he:=sM t hp hd
  rw [e2] at he
  unfold cZ
  rw [if_neg (fun h=>h hg)]
  have hs:=GM (aR d.files logN (cL t).1).1 logN jt (dc iA hw)
  refine zJ Tryz.func177 Tryz.ntmps177 Tryz.results177 ?_;simp only [go_sem]
  (refine zW qw (z3 he (vt d logN (cL t).1 e1 iA h hw) hs) @logN.eq_1 (z2 ?_ ?_)<;>(repeat with_reducible intro hc))
  · have hc':(aR d.files logN (cL t).1).2≠0∨safe=false:=hc
    rw [if_pos hc'];exact zEe @logN.eq_1
  · have hc':¬ ((aR d.files logN (cL t).1).2≠0∨safe=false):=fun h=>by rcases h with h | h;exact h hc.1;rw [hc.2] at h;cases h
    rw [if_neg hc'];exact zEe @logN.eq_1
theorem DP (l:List UInt8):∀ a:Nat,l.foldl (fun v (x:UInt8)=>v*256+x.toNat) a=a*256 ^ l.length+numN l:=by
  induction l with
  | nil=>intro a;simp [numN]
  | cons x l ih=>
    intro a
    unfold numN
    rw [List.foldl_cons,List.foldl_cons,ih,ih,List.length_cons,Nat.pow_succ]
    have:(a*256+x.toNat)*256 ^ l.length=a*(256 ^ l.length*256)+x.toNat*256 ^ l.length:=by rw [Nat.add_mul,Nat.mul_assoc,Nat.mul_comm 256 (256 ^ l.length)]
    rw [this,Nat.zero_mul,Nat.zero_add,Nat.add_assoc]
theorem pB (x:UInt8) (l:List UInt8):numN (x::l)=x.toNat*256 ^ l.length+numN l:=by
  unfold numN
  rw [List.foldl_cons,DP,Nat.zero_mul,Nat.zero_add];rfl
theorem qW:∀ l:List UInt8,numN l < 256 ^ l.length
  | []=>by simp [numN]
  | x::l=>by
    have h:=qW l
    have hx:=x.toNat_lt
    rw [pB,List.length_cons,Nat.pow_succ]
    have:x.toNat*256 ^ l.length≤255*256 ^ l.length:=Nat.mul_le_mul_right _ (by omega)
    omega
theorem Ny (n:Nat):(2:Int) ^ (8*n)=((256 ^ n:Nat):Int):=by
  rw [Int.pow_mul];simp
theorem rH:∀ (l:List UInt8) (k:Int),beB l.length ((numN l:Int)+(256 ^ l.length:Nat)*k)=l
  | [],_=>rfl
  | x :: l,k=>by
    have hb:=qW l
    have hx:=x.toNat_lt
    rw [List.length_cons,beB]
    have e:((numN (x::l):Nat):Int)+((256 ^ (l.length+1):Nat):Int)*k=(numN l:Int)+((256 ^ l.length:Nat):Int)*(x.toNat+256*k):=by
      rw [pB,Nat.pow_succ,Int.natCast_add,Int.natCast_mul,Int.natCast_mul,Int.mul_add,Int.mul_comm (x.toNat:Int),Int.mul_assoc]
      generalize ((256 ^ l.length:Nat):Int)*_=a
      simp only [Int.cast_ofNat_Int] at *
      omega
    rw [e,rH l _]
    congr 1
    unfold byteAt
    rw [Ny,Int.add_mul_ediv_left _ _ (by have:0 < 256 ^ l.length:=Nat.pow_pos (by decide)
                                         omega),Int.ediv_eq_zero_of_lt (by omega) (by omega),Int.zero_add]
    rw [show ((x.toNat:Int)+256*k) % 256=x.toNat from by omega,Int.toNat_natCast,UInt8.ofNat_toNat]
theorem tT (l:List UInt8) (n:Nat) (h:l.length=n):beB n (numN l:Nat)=l:=by
  subst h
  have:=rH l 0
  rwa [Int.mul_zero,Int.add_zero] at this
theorem F9 (l:List UInt8):∃ k:Int,me l=(numN l:Int)+18446744073709551616*k:=by
  generalize hn:l.length=n
  induction n generalizing l with
  | zero=>rw [List.length_eq_zero_iff.1 hn];exact ⟨0,rfl⟩
  | succ n ih=>
    have e:l=l.take (n+1):=by rw [←hn,List.take_length]
    obtain ⟨k,hk⟩:=ih (l.take n) (by rw [List.length_take];omega)
    have h1:=pg l n (by omega)
    have h2:=vg l n (by omega)
    rw [←e] at h1 h2
    rw [h1,h2,hk,fL]
    refine ⟨(((numN (l.take n):Int)+18446744073709551616*k)*256+(l.getD n 0).toNat - (numN (l.take n)*256+(l.getD n 0).toNat:Nat) - 18446744073709551616*((((numN (l.take n):Int)+18446744073709551616*k)*256+(l.getD n 0).toNat+9223372036854775808) / 18446744073709551616)) / 18446744073709551616,?_⟩
    omega
theorem MW (l:List UInt8) (h:l.length=8):beB 8 (me l)=l:=by
  obtain ⟨k,hk⟩:=F9 l
  have:=rH l k
  rw [h] at this
  rw [hk];exact this
theorem rv (x:UInt8):byteAt 0 (x.toNat:Int)=x:=by
  have h:=x.toNat_lt
  unfold byteAt
  simp only [Nat.mul_zero,Int.pow_zero,Int.ediv_one]
  rw [show ((x.toNat:Int)) % 256=x.toNat from by omega,Int.toNat_natCast,UInt8.ofNat_toNat]
theorem ue {b:List UInt8} (h:eB b):bC (e9 b)=b:=by
  unfold eB at h
  have l1:(b.take 8).length=8:=by rw [List.length_take];omega
  have l2:((b.drop 9).take 4).length=4:=by rw [List.length_take,List.length_drop];omega
  have l3:((b.drop 13).take 4).length=4:=by rw [List.length_take,List.length_drop];omega
  have l4:((b.drop 17).take 4).length=4:=by rw [List.length_take,List.length_drop];omega
  have l5:((b.drop 22).take (bP b)).length=bP b:=by rw [List.length_take,List.length_drop];omega
  have l6:((b.drop (22+bP b)).take 2).length=2:=by rw [List.length_take,List.length_drop];omega
  have l7:(b.drop (24+bP b)).length=bD b:=by rw [List.length_drop];omega
  unfold bC b7 b6 b5 e9
  simp only [l5,l7]
  rw [MW _ l1,tT _ 4 l2,tT _ 4 l3,tT _ 4 l4,rv]
  rw [show ((bP b:Nat):Int)=((b.getD 21 0).toNat:Int) from rfl,rv]
  rw [show bD b=numN ((b.drop (22+bP b)).take 2) from rfl,tT _ 2 l6]
  have one (k:Nat) (hk:k < b.length):[b.getD k 0]=(b.drop k).take 1:=by
    rw [List.drop_eq_getElem_cons hk,List.getD_eq_getElem?_getD,List.getElem?_eq_getElem hk];rfl
  rw [one 8 (by omega),one 21 (by omega)]
  have j (m n k:Nat) (hk:m+n=k):b.take m++(b.drop m).take n=b.take k:=by subst hk;exact List.take_add.symm
  rw [j 8 1 9 rfl,j 9 4 13 rfl,j 13 4 17 rfl,j 17 4 21 rfl,j 21 1 22 rfl,j 22 (bP b) (22+bP b) rfl,j (22+bP b) 2 (24+bP b) (by omega),List.take_append_drop]
theorem yf {s:List UInt8} (h:(cy s).2.2=0):¬ dy s∧¬ d5 s∧¬ iv s∧eB (sB s)∧aO (e9 (sB s))=0:=by
  by_cases h1:dy s
  · rw [rr h1] at h;cases h
  by_cases h2:d5 s
  · rw [vF h1 h2] at h;cases h
  by_cases h3:iv s
  · rw [yZ h1 h2 h3] at h;cases h
  by_cases h4:eB (sB s)
  case neg=>rw [Bi h1 h2 h3 h4] at h;cases h
  by_cases h5:aO (e9 (sB s))=0
  · exact ⟨h1,h2,h3,h4,h5⟩
  · rw [AX h1 h2 h3 h4 h5] at h;exact absurd h h5
theorem Ir {s:List UInt8} (h:(cy s).2.2=0):cL (cy s).1=(s.take (sN s+7),0):=by
  obtain ⟨h1,h2,h3,h4,h5⟩:=yf h
  rw [vW h1 h2 h3 h4 h5]
  unfold dy at h1
  unfold d5 at h2
  unfold iv at h3
  have h3':numN ((s.drop (sN s+3)).take 4)=nI (s.take (sN s+3)):=Classical.byContradiction h3
  have h84:s.getD 0 0=84:=Classical.byContradiction fun e=>h1 (.inr e)
  have hl:((bC (e9 (sB s))).length:Int)=(sN s:Nat):=by
    rw [ue h4];unfold sB;rw [List.length_take,List.length_drop];omega
  have l2:((s.drop 1).take 2).length=2:=by rw [List.length_take,List.length_drop];omega
  have l4:((s.drop (sN s+3)).take 4).length=4:=by rw [List.length_take,List.length_drop];omega
  have one:[(84:UInt8)]=s.take 1:=by
    rw [←h84,List.getD_eq_getElem?_getD,List.getElem?_eq_getElem (by omega)]
    rcases s with _ | ⟨x,s⟩
    · simp at h1
    · rfl
  have j (m n k:Nat) (hk:m+n=k):s.take m++(s.drop m).take n=s.take k:=by subst hk;exact List.take_add.symm
  have hh:dD (e9 (sB s))=s.take (sN s+3):=by
    unfold dD
    rw [hl,ue h4,one,show sN s=numN ((s.drop 1).take 2) from rfl,tT _ 2 l2,j 1 2 3 rfl]
    exact j 3 _ _ (by rw [Nat.add_comm];rfl)
  unfold cL
  rw [if_pos h5]
  unfold pE
  rw [hh,←h3',tT _ 4 l4,j (sN s+3) 4 (sN s+7) rfl]
def encs (l:List ATxn):List UInt8:=(l.map fun t=>(cL t).1).flatten
theorem fF:encs []=[]:=rfl
theorem jl (l:List ATxn) (t:ATxn):encs (l++[t])=encs l++(cL t).1:=by unfold encs;simp
theorem u4 (l:List ATxn) (k:Nat) (h:k < l.length):encs (l.take (k+1))=encs (l.take k)++(cL (l.getD k default)).1:=by rw [cm l k h,jl]
def logOk (l:List ATxn):Prop:=(∀ k,k+1 < l.length→(l.getD k default).zxid < (l.getD (k+1) default).zxid)∧∀ t,t∈l→aO t=0
theorem lB:logOk []:=⟨fun k h=>by simp at h,fun t h=>by cases h⟩
theorem jX {l:List ATxn} {t:ATxn} (h:logOk l) (hz:0 < l.length→ay l < t.zxid) (ht:aO t=0):logOk (l++[t]):=by
  have g1:∀ j,j < l.length→(l++[t]).getD j default=l.getD j default:=fun j hj=>by
    rw [List.getD_eq_getElem?_getD,List.getElem?_append_left hj,List.getD_eq_getElem?_getD]
  have g2:(l++[t]).getD l.length default=t:=by simp [List.getD_eq_getElem?_getD]
  refine ⟨fun k hk=>?_,fun x hx=>?_⟩
  · rw [List.length_append,List.length_singleton] at hk
    rw [g1 k (by omega)]
    by_cases e:k+1=l.length
    · rw [e,g2]
      have:=hz (by omega)
      rw [dK (by omega),show l.length - 1=k from by omega] at this
      exact this
    · rw [g1 _ (by omega)];exact h.1 k (by omega)
  · rcases List.mem_append.1 hx with h1 | h1
    · exact h.2 x h1
    · rw [List.mem_singleton.1 h1];exact ht
theorem gc {l:List ATxn} (h:logOk l) {i:Nat}:∀ {j:Nat},i < j→j < l.length→(l.getD i default).zxid < (l.getD j default).zxid
  | 0,h1,_=>by omega
  | j+1,h1,h2=>by
    by_cases e:i=j
    · subst e;exact h.1 i h2
    · exact Int.lt_trans (gc h (by omega) (by omega)) (h.1 j h2)
theorem yb (s:List UInt8):∀ (f at_:Nat) (l:List ATxn),logOk l→encs l=s.take at_→at_≤s.length→logOk (fI s f at_ l).1∧encs (fI s f at_ l).1=s.take (fI s f at_ l).2∧(fI s f at_ l).2≤s.length
  | 0,at_,l,h1,h2,h3=>⟨h1,h2,h3⟩
  | f + 1,at_,l,h1,h2,h3=>by
    by_cases hc:(cy (s.drop at_)).2.2≠0∨(0 < l.length∧(cy (s.drop at_)).1.zxid≤ay l)
    · rw [ib hc];exact ⟨h1,h2,h3⟩
    · have hz:(cy (s.drop at_)).2.2=0:=Classical.byContradiction fun h=>hc (.inl h)
      have hr:¬ (0 < l.length∧(cy (s.drop at_)).1.zxid≤ay l):=fun h=>hc (.inr h)
      rcases nb (s.drop at_) with ⟨c,_⟩ | ⟨_,c2,c3,_,c5⟩
      · exact absurd hz c
      rw [jL hz hr c2]
      rw [List.length_drop] at c3
      refine yb s f _ _ (jX h1 (fun h0=>?_) c5) ?_ (by omega)
      · exact Int.not_le.1 fun h=>hr ⟨h0,h⟩
      · rw [jl,h2,Ir hz];exact List.take_add.symm
theorem om (s:List UInt8):logOk (scanT s).1∧encs (scanT s).1=s.take (scanT s).2∧(scanT s).2≤s.length:=yb s _ 0 [] lB rfl (Nat.zero_le _)
def keepL (l:List ATxn) (z:Int):List ATxn:=l.filter fun t=>decide (t.zxid≤z)
theorem sy {l:List ATxn} {z:Int} {k:Nat} (hr:logOk l) (hk:k≤l.length) (h1:∀ j,j < k→(l.getD j default).zxid≤z) (h2:k < l.length→z < (l.getD k default).zxid):keepL l z=l.take k:=by
  unfold keepL
  conv=>lhs;rw [←List.take_append_drop k l]
  rw [List.filter_append]
  have e1:(l.take k).filter (fun t=>decide (t.zxid≤z))=l.take k:=by
    rw [List.filter_eq_self]
    intro t ht
    obtain ⟨j,hj,rfl⟩:=List.mem_take_iff_getElem.1 ht
    have:=h1 j (by omega)
    rw [List.getD_eq_getElem?_getD,List.getElem?_eq_getElem (by omega)] at this
    simpa using this
  have e2:(l.drop k).filter (fun t=>decide (t.zxid≤z))=[]:=by
    rw [List.filter_eq_nil_iff]
    intro t ht
    obtain ⟨j,hj,rfl⟩:=List.mem_drop_iff_getElem.1 ht
    have a:=h2 (by omega)
    have:z < (l.getD (k+j) default).zxid:=by
      by_cases e:j=0
      · subst e;exact a
      · exact Int.lt_trans a (gc hr (by omega) (by omega))
    rw [List.getD_eq_getElem?_getD,List.getElem?_eq_getElem (by omega)] at this
    simpa using this
  rw [e1,e2,List.append_nil]
theorem Hm {l:List ATxn} {k:Nat}:encs (l.take k)=(encs l).take (encs (l.take k)).length:=by
  conv=>rhs;rw [show encs l=encs (l.take k)++encs (l.drop k) from by unfold encs;rw [←List.flatten_append,←List.map_append,List.take_append_drop]]
  rw [List.take_left'];rfl
theorem nm (l:List AFile) (k:Nat):(l.map AFile.name).getD k []=(l.getD k default).name:=gi AFile.name l k default
theorem gP {l:List AFile}:bL l=true↔l.length≤16∧∀ k,k < l.length→wK l k:=by unfold bL;rw [decide_eq_true_eq]
theorem Eo {l:List AFile} {p:Nat} {x:AFile} (h:bL l=true) (hn:x.name=(l.getD p default).name) (hl:x.safe.length+x.tail.length≤1048576):bL (l.set p x)=true:=by
  rw [gP] at h ⊢
  have g (j:Nat):((l.set p x).getD j default).name=(l.getD j default).name:=by
    simp only [List.getD_eq_getElem?_getD,List.getElem?_set]
    split
    · rename_i e;subst e
      split
      · exact hn
      · rename_i h2;rw [List.getElem?_eq_none (by omega)]
    · rfl
  refine ⟨by rw [List.length_set];exact h.1,fun k hk=>?_⟩
  rw [List.length_set] at hk
  obtain ⟨a,b⟩:=h.2 k hk
  refine ⟨⟨by rw [g];exact a.1,?_⟩,by rw [g,g];exact b⟩
  simp only [List.getD_eq_getElem?_getD,List.getElem?_set]
  split
  · rename_i e;subst e
    split
    · exact hl
    · omega
  · simpa only [List.getD_eq_getElem?_getD] using a.2
theorem GU {ns:List (List UInt8)} {key:List UInt8} {k:Nat} (h:k < place ns key):ns.getD k [] < key:=by
  have hl:=gk ns key
  have:=List.not_of_lt_findIdx (p:=fun x=>!decide (x < key)) (xs:=ns) h
  rw [List.getD_eq_getElem?_getD,List.getElem?_eq_getElem (by omega)]
  simpa using this
theorem HA {ns:List (List UInt8)} {key:List UInt8} (h:place ns key < ns.length):¬ ns.getD (place ns key) [] < key:=by
  have:=List.findIdx_getElem (p:=fun x=>!decide (x < key)) (xs:=ns) (w:=h)
  rw [Bool.not_eq_true',decide_eq_false_iff_not] at this
  rw [List.getD_eq_getElem?_getD,List.getElem?_eq_getElem h]
  exact this
theorem mO {α:Type} (l:List α) (i k:Nat) (x z:α) (h:i≤l.length) (hk:i < k):(l.insertIdx i x).getD k z=l.getD (k - 1) z:=by
  rw [eH _ _ _ h,List.getD_eq_getElem?_getD,List.getElem?_append_right (by rw [List.length_take];omega),List.length_take,Nat.min_eq_left h,show k - i=(k - i - 1)+1 from by omega,List.getElem?_cons_succ,List.getElem?_drop,List.getD_eq_getElem?_getD]
  congr 2;omega
theorem DO {l:List AFile} {key:List UInt8} {x:AFile} (h:bL l=true) (hx:x.name=key) (hm:¬ key∈l.map AFile.name) (hn:bc key=true) (hf:l.length < 16) (hs:x.safe.length+x.tail.length≤1048576):bL (l.insertIdx (place (l.map AFile.name) key) x)=true:=by
  have hr:=dq h
  have hp:=jx (l:=l) (key:=key)
  have lo:∀ j,j < place (l.map AFile.name) key→(l.getD j default).name < key:=fun j hj=>by rw [←nm];exact GU hj
  have hi:∀ j,place (l.map AFile.name) key≤j→j < l.length→key < (l.getD j default).name:=fun j h1 h2=>by
    have a:=HA (ns:=l.map AFile.name) (key:=key) (by rw [List.length_map];omega)
    have b:key < (l.map AFile.name).getD (place (l.map AFile.name) key) []:=ve a fun e=>hm (by rw [←e];exact cz _ _ (by rw [List.length_map];omega))
    by_cases e:place (l.map AFile.name) key=j
    · rw [←nm,←e];exact b
    · have:=bg hr (i:=place (l.map AFile.name) key) (j:=j) (by omega) (by rw [List.length_map];omega)
      rw [nm l j] at this
      exact List.lt_trans b this
  generalize place (l.map AFile.name) key=p at *
  rw [gP] at h ⊢
  refine ⟨by rw [eQ _ _ _ hp];omega,fun k hk=>?_⟩
  rw [eQ _ _ _ hp] at hk
  rcases Nat.lt_trichotomy k p with hkp | hkp | hkp
  · obtain ⟨a,b⟩:=h.2 k (by omega)
    refine ⟨?_,fun h0=>?_⟩
    · rw [eT _ _ _ _ _ hp hkp];exact a
    · rw [eT _ _ _ _ _ hp hkp,eT _ _ _ _ _ hp (by omega)];exact b h0
  · subst hkp
    refine ⟨?_,fun h0=>?_⟩
    · rw [gg _ _ _ _ hp];exact ⟨by rw [hx];exact hn,hs⟩
    · rw [gg _ _ _ _ hp,eT _ _ _ _ _ hp (by omega),hx];exact lo _ (by omega)
  · obtain ⟨a,b⟩:=h.2 (k - 1) (by omega)
    refine ⟨?_,fun h0=>?_⟩
    · rw [mO _ _ _ _ _ hp hkp];exact a
    · rw [mO _ _ _ _ _ hp hkp]
      by_cases e:k - 1=p
      · rw [e,gg _ _ _ _ hp,hx];exact hi _ (Nat.le_refl _) (by omega)
      · rw [mO _ _ _ _ _ hp (by omega)];exact b (by omega)
def recoverD (l:List AFile):List ATxn×ADisk×Int:=
  if (readD l logN).2=7 then (if (aR l logN []).2=0 then ([],(aR l logN []).1,0) else ([],default,(aR l logN []).2))
  else if (readD l logN).2=0 then ((scanT (readD l logN).1).1,(br l logN (mI (scanT (readD l logN).1).2)).1,0)
  else ([],default,(readD l logN).2)
theorem nw {l:List AFile} (key:List UInt8):(readD l key).1.length≤1048576:=by
  unfold readD
  split
  · decide
  · rename_i hg
    split
    · rename_i hm
      have hg':bL l=true:=by simpa using hg
      have hp:=gl hg' hm
      have:=((gP.1 hg').2 _ hp).1.2
      simp only [List.length_append];exact this
    · decide
theorem oI {l:List AFile} {key:List UInt8} (h:(readD l key).2=0):bL l=true∧key∈l.map AFile.name∧(readD l key).1=(l.getD (place (l.map AFile.name) key) default).safe++(l.getD (place (l.map AFile.name) key) default).tail:=by
  unfold readD at h ⊢
  split at h
  · cases h
  · rename_i hg
    split at h
    · rename_i hm
      rw [if_neg hg,if_pos hm]
      exact ⟨by simpa using hg,hm,rfl⟩
    · cases h
theorem Bb {l:List AFile} {key:List UInt8} (h:(readD l key).2=7):bL l=true∧¬ key∈l.map AFile.name:=by
  unfold readD at h
  split at h
  · cases h
  · rename_i hg
    split at h
    · cases h
    · rename_i hm;exact ⟨by simpa using hg,hm⟩
theorem EO {l:List AFile} {key:List UInt8} {n:Nat} (hg:bL l=true) (hm:key∈l.map AFile.name) (hn:n≤((l.getD (place (l.map AFile.name) key) default).safe++(l.getD (place (l.map AFile.name) key) default).tail).length) :
    br l key (mI n)=(⟨l.set (place (l.map AFile.name) key) ⟨key,((l.getD (place (l.map AFile.name) key) default).safe++(l.getD (place (l.map AFile.name) key) default).tail).take n,[]⟩⟩,0):=by
  have e:mI n (l.getD (place (l.map AFile.name) key) default)=(⟨(l.getD (place (l.map AFile.name) key) default).name,((l.getD (place (l.map AFile.name) key) default).safe++(l.getD (place (l.map AFile.name) key) default).tail).take n,[]⟩,0):=by
    rw [List.length_append] at hn
    unfold mI;rw [if_neg (by omega),Int.toNat_natCast]
  rw [gQ hg hm (by rw [e]),e]
  have:=(ap (dq hg) hm).2
  rw [nm] at this
  simp only [this]
theorem og {l:List AFile} (h:(readD l logN).2=0):(br l logN (mI (scanT (readD l logN).1).2))=(⟨l.set (place (l.map AFile.name) logN) ⟨logN,encs (scanT (readD l logN).1).1,[]⟩⟩,0):=by
  obtain ⟨a,b,c⟩:=oI h
  obtain ⟨d1,d2,d3⟩:=om (readD l logN).1
  rw [EO a b (by rw [←c];exact d3),←c,←d2]
theorem fM:bc logN=true:=by decide
theorem HE {α:Type} (l:List α) (p:Nat) (x z:α) (h:p < l.length):(l.set p x).getD p z=x:=by
  rw [List.getD_eq_getElem?_getD,List.getElem?_set_self h];rfl
theorem wa {l:List AFile} {p:Nat} {x:AFile} (h:x.name=(l.getD p default).name):(l.set p x).map AFile.name=l.map AFile.name:=by
  apply List.ext_getElem?
  intro j
  rw [List.getElem?_map,List.getElem?_map,List.getElem?_set]
  split
  · rename_i e;subst e
    split
    · rename_i h2;rw [List.getD_eq_getElem?_getD,List.getElem?_eq_getElem h2] at h;rw [List.getElem?_eq_getElem h2];simp [h]
    · rename_i h2;rw [List.getElem?_eq_none (by omega)]
  · rfl
structure RecOk (l:List AFile) (r:List AFile) (L:List ATxn):Prop where
  good:bL r=true
  mem:logN∈r.map AFile.name
  file:r.getD (place (r.map AFile.name) logN) default=⟨logN,encs L,[]⟩
  ok:logOk L
  len:(encs L).length≤1048576
  cnt:L.length≤1048577
  wf:(∀ f,f∈l→f.wf)→∀ f,f∈r→f.wf
theorem Aj {l:List AFile} (h:bL l=true):l.length*48≤140737488351232:=by have:=sO h;omega
theorem jS {l:List AFile} (h:(recoverD l).2.2=0):RecOk l (recoverD l).2.1.files (recoverD l).1:=by
  unfold recoverD at h ⊢
  by_cases h7:(readD l logN).2=7
  · rw [if_pos h7] at h ⊢
    by_cases hw:(aR l logN []).2=0
    · rw [if_pos hw]
      obtain ⟨a,b⟩:=Bb h7
      have hwf:=fun h0=>dc (l:=l) (s:=[]) iA h0
      unfold aR at hw ⊢ hwf
      rw [if_neg (by simp [a]),if_neg (by simp [fM]),if_neg b] at hw ⊢ hwf
      split at hw
      · cases hw
      rename_i h16
      rw [if_neg h16,if_neg (by decide)] at hwf ⊢
      have hpl:=jx (l:=l) (key:=logN)
      have hg:=DO (x:=⟨logN,[],[]⟩) a rfl b fM (by omega) (by decide)
      have hnm:((l.insertIdx (place (l.map AFile.name) logN) (⟨logN,[],[]⟩:AFile)).map AFile.name).getD (place (l.map AFile.name) logN) []=logN:=by
        rw [nm,gg _ _ _ _ hpl]
      have hlt:place (l.map AFile.name) logN < ((l.insertIdx (place (l.map AFile.name) logN) (⟨logN,[],[]⟩:AFile)).map AFile.name).length:=by
        rw [List.length_map,eQ _ _ _ hpl];omega
      have hpe:=wB (dq hg) hlt
      rw [hnm] at hpe
      refine ⟨hg,?_,?_,lB,(Nat.zero_le 1048576),(Nat.zero_le 1048577),hwf⟩
      · have:=cz _ [] hlt
        rw [hnm] at this;exact this
      · show (l.insertIdx _ _).getD (place ((l.insertIdx _ _).map AFile.name) logN) default=_
        rw [hpe,gg _ _ _ _ hpl];rfl
    · rw [if_neg hw] at h;exact absurd h hw
  · rw [if_neg h7] at h ⊢
    by_cases h0:(readD l logN).2=0
    · rw [if_pos h0] at h ⊢
      rw [og h0]
      obtain ⟨a,b,c⟩:=oI h0
      obtain ⟨d1,d2,d3⟩:=om (readD l logN).1
      have hlen:=nw (l:=l) logN
      have he:(encs (scanT (readD l logN).1).1).length≤1048576:=by rw [d2,List.length_take];omega
      have hp:=gl a b
      have hn:=(ap (dq a) b).2
      rw [nm] at hn
      have hmn:(l.set (place (l.map AFile.name) logN) (⟨logN,encs (scanT (readD l logN).1).1,[]⟩:AFile)).map AFile.name=l.map AFile.name:=wa hn.symm
      refine ⟨Eo a hn.symm (by simpa using he),?_,?_,d1,he,by have:=um (readD l logN).1;show (scanT _).1.length≤_;omega,fun hwf f hf=>?_⟩
      · show logN∈(l.set _ _).map AFile.name
        rw [hmn];exact b
      · show (l.set _ _).getD (place ((l.set _ _).map AFile.name) logN) default=_
        rw [hmn,HE _ _ _ _ hp]
      · rcases List.mem_or_eq_of_mem_set hf with h1 | h1
        · exact hwf f h1
        · subst h1;exact ⟨iA,by show okS (encs (scanT (readD l logN).1).1);unfold okS;omega,by show okS [];unfold okS;decide⟩
    · rw [if_neg h0] at h;exact absurd h h0
theorem rX {l:List AFile}:(recoverD l).2.1.files.length*48≤140737488351232:=by
  unfold recoverD
  split
  · split
    · exact jt
    · exact (by decide:([]:List AFile).length*48≤140737488351232)
  · split
    · rename_i h0
      rw [og h0]
      have:=Aj (oI h0).1
      show (l.set _ _).length*48≤_
      rw [List.length_set];exact this
    · exact (by decide:([]:List AFile).length*48≤140737488351232)
theorem xg (l:List AFile):(recoverD l).1.length*72≤140737488351232:=by
  unfold recoverD
  split
  · split<;>exact (by decide:([]:List ATxn).length*72≤140737488351232)
  · split
    · have a:=um (readD l logN).1
      have b:=nw (l:=l) logN
      simp only;omega
    · exact (by decide:([]:List ATxn).length*72≤140737488351232)
theorem Nj {l:List AFile} (h:(readD l logN).2=7) (h2:¬ (aR l logN []).2=0):recoverD l=([],default,(aR l logN []).2):=by unfold recoverD;rw [if_pos h,if_neg h2]
theorem Ng {l:List AFile} (h:(readD l logN).2=7) (h2:(aR l logN []).2=0):recoverD l=([],(aR l logN []).1,0):=by unfold recoverD;rw [if_pos h,if_pos h2]
theorem NM {l:List AFile} (h:¬ (readD l logN).2=7) (h2:¬ (readD l logN).2=0):recoverD l=([],default,(readD l logN).2):=by unfold recoverD;rw [if_neg h,if_neg h2]
theorem La {l:List AFile} (h:¬ (readD l logN).2=7) (h2:(readD l logN).2=0):recoverD l=((scanT (readD l logN).1).1,(br l logN (mI (scanT (readD l logN).1).2)).1,0):=by unfold recoverD;rw [if_neg h,if_pos h2]
set_option maxHeartbeats 2000000 in
theorem lF (d:ADisk) (h:d.files.length*48≤140737488351232) (hw:∀ f,f∈d.files→f.wf):ab Tryz.prog [] 37 [d.av] (ret (.tup [.d (.sl 7 ((recoverD d.files).1.map ATxn.row)),(recoverD d.files).2.1.av,I (recoverD d.files).2.2])):=by
  have hr:=FX d logN h hw
  have hs:=Lr _ (nw (l:=d.files) logN)
  have hcut:=K1 d logN (scanT (readD d.files logN).1).2 h hw
  have hwr:=vt d logN [] (by unfold okS;decide) iA h hw
  refine zJ Tryz.func37 Tryz.ntmps37 Tryz.results37 ?_;simp only [go_sem]
  (refine zW qw (z4 hr hwr hs hcut) @logN.eq_1 (zc ?_ (z4 ?_ ?_ ?_ ?_))<;>(repeat with_reducible intro hc))
  · rw [Nj (by assumption) (by assumption)];exact zEe (zx @logN.eq_1 dfl)
  · rw [Ng (by assumption) (by assumption)];exact zEe (zx @logN.eq_1 dfl)
  · rw [NM (by assumption) (by assumption)];exact zEe (zx @logN.eq_1 dfl)
  · have e:=og (l:=d.files) (by assumption)
    exact absurd (congrArg Prod.snd e) hc
  · rw [La (by assumption) (by assumption)];exact zEe @logN.eq_1
def keepD (l:List AFile) (z:Int):ADisk×Int:=
  if (recoverD l).2.2=0 then (⟨(recoverD l).2.1.files.set (place ((recoverD l).2.1.files.map AFile.name) logN) ⟨logN,encs (keepL (recoverD l).1 z),[]⟩⟩,0) else (default,(recoverD l).2.2)
theorem B1 {l:List AFile} {z:Int} (h:¬ (recoverD l).2.2=0):keepD l z=(default,(recoverD l).2.2):=by unfold keepD;rw [if_neg h]
theorem qK {l:List AFile} {z:Int} (h:(recoverD l).2.2=0):keepD l z=(⟨(recoverD l).2.1.files.set (place ((recoverD l).2.1.files.map AFile.name) logN) ⟨logN,encs (keepL (recoverD l).1 z),[]⟩⟩,0):=by unfold keepD;rw [if_pos h]
theorem Ca {l:List AFile} {z:Int}:(keepD l z).1.files.length*48≤140737488351232:=by
  unfold keepD
  split
  · have:=rX (l:=l)
    show (List.set _ _ _).length*48≤_
    rw [List.length_set];exact this
  · exact (by decide:([]:List AFile).length*48≤140737488351232)
theorem iV (l:List ATxn) (k:Nat):(encs (l.take k)).length≤(encs l).length:=by
  have:encs l=encs (l.take k)++encs (l.drop k):=by unfold encs;rw [←List.flatten_append,←List.map_append,List.take_append_drop]
  rw [this,List.length_append];omega
theorem qa (p:ATxn→Bool):∀ l:List ATxn,(encs (l.filter p)).length≤(encs l).length
  | []=>Nat.le_refl _
  | t::l=>by
    have ih:=qa p l
    have e (x:ATxn) (r:List ATxn):(encs (x::r)).length=(cL x).1.length+(encs r).length:=by unfold encs;simp
    by_cases h:p t=true
    · rw [List.filter_cons_of_pos h,e,e];omega
    · rw [List.filter_cons_of_neg h,e];omega
theorem Hp {l:List AFile} {z:Int} {k:Nat} (h:(recoverD l).2.2=0) (hk:k≤(recoverD l).1.length) (h1:∀ j,j < k→((recoverD l).1.getD j default).zxid≤z) (h2:k < (recoverD l).1.length→z < ((recoverD l).1.getD k default).zxid) :
    br (recoverD l).2.1.files logN (mI (encs ((recoverD l).1.take k)).length)=keepD l z:=by
  have o:=jS h
  have hl:=iV (recoverD l).1 k
  rw [qK h,EO o.good o.mem (by rw [o.file];simpa using hl),o.file,sy o.ok hk h1 h2]
  simp only [List.append_nil]
  rw [←Hm]
theorem I5 {l:List AFile} (h:(recoverD l).2.2=0) {k:Nat} (hk:k < (recoverD l).1.length):aO ((recoverD l).1.getD k default)=0:=(jS h).ok.2 _ (bX _ _ hk)
set_option maxHeartbeats 2000000 in
theorem Mj (d:ADisk) (z:Int) (h:d.files.length*48≤140737488351232) (hw:∀ f,f∈d.files→f.wf):ab Tryz.prog [] 183 [d.av,I z] (ret (.tup [(keepD d.files z).1.av,I (keepD d.files z).2])):=by
  by_cases h0:(recoverD d.files).2.2=0
  case neg=>
    rw [B1 h0]
    refine zJ Tryz.func183 Tryz.ntmps183 Tryz.results183 ?_;simp only [go_sem]
    (refine zW qw (z1 (lF d h hw)) trivial (z1 ?_)<;>(repeat with_reducible intro hc))
    all_goals first | (exfalso;omega) | skip
    exact zEe dfl
  have o:=jS h0
  have hrc:=lF d h hw
  rw [h0] at hrc
  have hcnt:=xg d.files
  have hcuts (n:Nat):=K1 (recoverD d.files).2.1 logN n rX (o.wf hw)
  have htx (k:Nat) (hk:k < (recoverD d.files).1.length):=I5 h0 hk
  have hkc (k:Nat) (hk:k≤(recoverD d.files).1.length):=Hp (z:=z) h0 hk
  have hlen:=o.len
  generalize hR:(recoverD d.files).2.1=R at hrc hcuts hkc
  generalize hL:(recoverD d.files).1=L at hrc hcnt htx hkc hlen
  refine zJ Tryz.func183 Tryz.ntmps183 Tryz.results183 ?_;simp only [go_sem]
  (refine zW qw (z1 hrc) trivial (z1 ?_)<;>(repeat with_reducible intro hc))
  refine AWP.loopB (ι:=Nat) (fun k=>k≤L.length∧∀ j,j < k→(L.getD j default).zxid≤z) (fun k=>L.length - k) [1,2,4,23,24] (fun k=>[(25,I k),(8,I (encs (L.take k)).length)]) (fun k=>[.cells [.d (.sl 3 (R.files.map AFile.row))],.cells [.d (.sc (.slice none 0 0))]]) 0 ?_ ?_ ?_
  · exact ⟨by omega,fun j hj=>by omega⟩
  · simp only [go_sem,List.take_zero,fF];exact zSm trivial
  intro k ⟨hk,hk2⟩
  simp only [go_sem]
  by_cases hkl:k < L.length
  · have hg:=htx k hkl
    obtain ⟨s1,s2⟩:=iC hg
    obtain ⟨e1,e2⟩:=B3 hg
    have he:=sM (L.getD k default) (by unfold okS;omega) (by unfold okS;omega)
    have hlt:=iV L (k+1)
    rw [u4 L k hkl,List.length_append] at hlt
    rw [e2] at he
    (refine zW qw (z2 he (hcuts (encs (L.take k)).length)) @logN.eq_1 (z2 ?_ ?_)<;>(repeat with_reducible intro hc))
    · have e:br R.files [108,111,103] (mI (encs (L.take k)).length)=keepD d.files z:=hkc k hk hk2 (fun _=>hc)
      exact zEe @e
    · refine ⟨k+1,⟨by omega,fun j hj=>?_⟩,by omega,?_⟩
      · by_cases ej:j=k
        · subst ej;exact hc
        · exact hk2 j (by omega)
      rw [u4 L k hkl,List.length_append]
      exact zFr [0,1] @Int.natCast_add
  · (refine zW qw (z1 (hcuts (encs (L.take k)).length)) @logN.eq_1 (z1 ?_)<;>(repeat with_reducible intro hc))
    have e:br R.files [108,111,103] (mI (encs (L.take k)).length)=keepD d.files z:=hkc k hk hk2 (fun h=>by omega)
    exact zEe @e
def cq:List (List UInt8)→List UInt8
  | []=>[]
  | p::ps=>47::(p++cq ps)
def bZ (ps:List (List UInt8)):List UInt8:=if ps=[] then [47] else cq ps
theorem uw (a b:List (List UInt8)):cq (a++b)=cq a++cq b:=by
  induction a with
  | nil=>rfl
  | cons p a ih=>simp [cq,ih]
theorem lD (b:List UInt8):bT (47::b)=[]::bT b:=by simp [bT]
theorem gA {c:UInt8} (h:¬ c=47) (r:List UInt8):bT (c::r)=match bT r with
    | p::ps=>(c::p)::ps
    | []=>[[c]]:=by simp only [bT,if_neg h]<;>(cases bT r<;>rfl)
theorem Ae (a b:List UInt8):bT (a++47::b)=bT a++bT b:=by
  induction a with
  | nil=>exact lD b
  | cons c a ih=>
    by_cases h:c=47
    · subst h
      rw [List.cons_append,lD,lD,ih];rfl
    · rw [List.cons_append,gA h,gA h,ih]
      cases hs:bT a with
      | nil=>exact absurd hs (Ds a)
      | cons p ps=>rfl
theorem uh {p:List UInt8} (h:(47:UInt8)∉p):bT p=[p]:=by
  induction p with
  | nil=>rfl
  | cons c p ih=>
    rw [List.mem_cons,not_or] at h
    rw [gA (fun e=>h.1 e.symm),ih h.2]
theorem xK {p:List UInt8} {ps:List (List UInt8)} (hp:(47:UInt8)∉p) (h:∀ q,q∈ps→(47:UInt8)∉q):bT (p++cq ps)=p::ps:=by
  induction ps generalizing p with
  | nil=>rw [cq,List.append_nil,uh hp]
  | cons q ps ih=>
    rw [cq,Ae,uh hp,ih (h q (by simp)) (fun x hx=>h x (List.mem_cons_of_mem _ hx))];rfl
theorem pU:∀ (r:List UInt8),∃ q qs,bT r=q::qs∧r=q++cq qs
  | []=>⟨[],[],rfl,rfl⟩
  | c :: r=>by
    obtain ⟨q,qs,e1,e2⟩:=pU r
    by_cases h:c=47
    · subst h
      exact ⟨[],q::qs,by rw [lD,e1],by rw [e2];rfl⟩
    · refine ⟨c::q,qs,?_,by rw [e2];rfl⟩
      rw [gA h,e1]
theorem oE {p:List UInt8} (h:bc p=true):(47:UInt8)∉p:=by
  intro hm
  unfold bc at h
  rw [Bool.and_eq_true,List.all_eq_true] at h
  have:=h.1 _ hm
  revert this;decide
def cY (s:List UInt8):List (List UInt8):=if s=[47] then [] else bT (s.drop 1)
theorem ji {s:List UInt8} (h:bF s=true):s=bZ (cY s)∧(∀ q,q∈cY s→bc q=true)∧s.length≤200∧∀ q,q∈cY s→(47:UInt8)∉q:=by
  have hl:=oK h
  have key:s=bZ (cY s)∧(∀ q,q∈cY s→bc q=true):=by
    unfold cY
    by_cases h47:s=[47]
    · rw [if_pos h47]
      exact ⟨by rw [h47];rfl,by simp⟩
    · rw [if_neg h47]
      unfold bF at h
      rw [decide_eq_false h47,Bool.false_or,Bool.and_eq_true,Bool.and_eq_true,decide_eq_true_eq,decide_eq_true_eq] at h
      obtain ⟨_,⟨h1,h2⟩,h3⟩:=h
      cases s with
      | nil=>simp at h1
      | cons c r=>
        have hc:c=47:=by simpa using h2
        subst hc
        obtain ⟨q,qs,e1,e2⟩:=pU r
        refine ⟨?_,fun x hx=>?_⟩
        · show 47::r=bZ (bT r)
          rw [e1]
          unfold bZ
          rw [if_neg (by simp),cq,←e2]
        · unfold ch at h3
          exact List.all_eq_true.1 h3 x hx
  exact ⟨key.1,key.2,hl,fun q hq=>oE (key.2 q hq)⟩
theorem yC {ps:List (List UInt8)} (h:ps≠[]):cq ps≠[]:=by
  cases ps with
  | nil=>exact absurd rfl h
  | cons p ps=>simp [cq]
theorem Hh {ps:List (List UInt8)} (hn:∀ q,q∈ps→bc q=true):cq ps≠[47]:=by
  cases ps with
  | nil=>simp [cq]
  | cons p ps=>
    intro h
    have hp:=hn p (by simp)
    rw [cq,List.cons.injEq] at h
    have h2:=List.append_eq_nil_iff.1 h.2
    rw [h2.1] at hp
    revert hp;decide
theorem pC {ps:List (List UInt8)} (hn:∀ q,q∈ps→bc q=true):bZ ps=[47]↔ps=[]:=by
  unfold bZ
  split
  · rename_i h;exact iff_of_true rfl h
  · rename_i h;exact iff_of_false (Hh hn) h
theorem gH {ps:List (List UInt8)} (hn:∀ q,q∈ps→bc q=true):cY (bZ ps)=ps:=by
  unfold cY
  split
  · rename_i h;exact ((pC hn).1 h).symm
  · rename_i h
    have h0:ps≠[]:=fun e=>h ((pC hn).2 e)
    unfold bZ
    rw [if_neg h0]
    cases ps with
    | nil=>exact absurd rfl h0
    | cons p ps=>
      show bT (p++cq ps)=_
      exact xK (oE (hn p (by simp))) fun q hq=>oE (hn q (List.mem_cons_of_mem _ hq))
theorem yp {ps:List (List UInt8)} (hn:∀ q,q∈ps→bc q=true) (hl:(bZ ps).length≤200):bF (bZ ps)=true:=by
  unfold bF
  by_cases h0:ps=[]
  · subst h0;rfl
  · have e:=gH hn
    unfold cY at e
    rw [if_neg (fun h=>h0 ((pC hn).1 h))] at e
    rw [decide_eq_true hl,Bool.true_and]
    unfold ch
    rw [e,List.all_eq_true.2 hn,Bool.and_true,Bool.or_eq_true,decide_eq_true_eq]
    refine .inr ?_
    rw [decide_eq_true_eq]
    unfold bZ
    rw [if_neg h0]
    cases ps with
    | nil=>exact absurd rfl h0
    | cons p ps=>simp [cq]
theorem yL (ps:List (List UInt8)) (k:Nat):(cq (ps.take k)).length≤(cq ps).length:=by
  have:=uw (ps.take k) (ps.drop k)
  rw [List.take_append_drop] at this
  rw [this,List.length_append];omega
theorem yu {ps:List (List UInt8)} (k:Nat) (h:(bZ ps).length≤200):(bZ (ps.take k)).length≤200:=by
  have:=yL ps k
  unfold bZ at *
  split at h
  · rename_i e;subst e;simp
  · split
    · simp
    · omega
def af (s:List UInt8):(List UInt8×List UInt8)×Int:=if bF s=true then (if cY s=[] then (([],[]),7) else ((bZ ((cY s).take ((cY s).length - 1)),(cY s).getD ((cY s).length - 1) []),0)) else (([],[]),2)
theorem ug {s:List UInt8} (h:¬ bF s=true):af s=(([],[]),2):=by unfold af;rw [if_neg h]
theorem mL:af [47]=(([],[]),7):=by rfl
theorem mZ {ps:List (List UInt8)} {p:List UInt8} (hn:∀ q,q∈ps++[p]→bc q=true) (hl:(bZ (ps++[p])).length≤200):af (bZ (ps++[p]))=((bZ ps,p),0):=by
  unfold af
  rw [if_pos (yp hn hl),gH hn,if_neg (by simp),List.length_append,List.length_singleton,Nat.add_sub_cancel,List.take_left']
  · simp
  · rfl
theorem m7 {s:List UInt8} (h:bF s=true):s=[47]∨∃ ps p,(∀ q,q∈ps++[p]→bc q=true)∧s=bZ (ps++[p])∧(bZ (ps++[p])).length≤200∧bZ (ps++[p])=cq ps++47::p:=by
  obtain ⟨h1,h2,h3,h4⟩:=ji h
  rcases List.eq_nil_or_concat (cY s) with e | ⟨ps,p,e⟩
  · left;rw [h1,e];rfl
  · right
    rw [List.concat_eq_append] at e
    rw [e] at h1 h2
    refine ⟨ps,p,h2,h1,by rw [←h1];exact h3,?_⟩
    unfold bZ
    rw [if_neg (by simp),uw]
    simp [cq]
theorem Bw (a b:List UInt8) (c:UInt8):(a++c::b).length=a.length+b.length+1:=by simp;omega
theorem yM (a b:List UInt8) (c d:UInt8) (j:Nat) (h:j < b.length):(a++c::b).getD (a.length+b.length - j) d=b.getD (b.length - 1 - j) d:=by
  rw [List.getD_eq_getElem?_getD,List.getElem?_append_right (by omega),show a.length+b.length - j - a.length=(b.length - 1 - j)+1 from by omega,List.getElem?_cons_succ,←List.getD_eq_getElem?_getD]
theorem As (a b:List UInt8) (c d:UInt8):(a++c::b).getD a.length d=c:=by
  rw [List.getD_eq_getElem?_getD,List.getElem?_append_right (by omega),Nat.sub_self];rfl
theorem Jd (a b:List UInt8) (c:UInt8) (hc:c∉b) (hs:okS (a++c::b)):ab Tryz.prog [] 196 [S (a++c::b),.d (.int .u8 c.toNat)] (ret (I a.length)):=by
  unfold okS at hs
  have hlen:=Bw a b c
  rw [hlen] at hs
  have hst:((a.length+b.length+1:Nat):Int) - 1=((a.length+b.length:Nat):Int):=by omega
  refine zJ Tryz.func196 Tryz.ntmps196 Tryz.results196 ?_;simp only [go_sem]
  (refine zW qw zn @hlen (z1 ?_)<;>(repeat with_reducible intro hc))
  refine AWP.loopS (ι:=Nat) (fun j=>j≤b.length) (fun j=>b.length - j) [0,1] (fun j=>[(5,I ((a.length+b.length - j:Nat):Int))]) 0 ?_ (by simp (disch:=omega) only [go_sem,aa,hst,Nat.sub_zero]) ?_
  · omega
  intro j hj
  simp only [go_sem]
  (refine zW qw zn @hlen (z2 ?_ ?_)<;>(repeat with_reducible intro hc))
  · by_cases e:j=b.length
    · subst e
      exact zEe @Nat.add_sub_cancel
    · have hlt:j < b.length:=by omega
      rw [yM a b c 0 j hlt] at hc
      exfalso
      have hb:b.getD (b.length - 1 - j) 0=c:=UInt8.toNat.inj (Int.ofNat_inj.1 hc)
      rw [List.getD_eq_getElem?_getD,List.getElem?_eq_getElem (by omega)] at hb
      have hin:=List.getElem_mem (l:=b) (n:=b.length - 1 - j) (by omega)
      rw [show b[b.length - 1 - j]=c from hb] at hin
      exact absurd hin (by assumption)
  · by_cases e:j=b.length
    · subst e
      exfalso
      rw [Nat.add_sub_cancel,As] at hc
      exact hc rfl
    · refine ⟨j+1,by omega,by omega,?_⟩
      have e1:((a.length+b.length - (j+1):Nat):Int)=((a.length+b.length - j:Nat):Int) - 1:=by omega
      rw [e1]
      exact zSm trivial
  all_goals (exfalso;omega)
theorem xb (a b:List UInt8) (c:UInt8) (hc:c∉b) (hs:okS (a++c::b)):ab Tryz.prog [] 136 [S (a++c::b),.d (.int .u8 c.toNat)] (ret (I a.length)):=by
  refine zJ Tryz.func136 Tryz.ntmps136 Tryz.results136 ?_;simp only [go_sem]
  (refine zW qw (z1 (Jd a b c hc hs)) trivial (z1 ?_)<;>(repeat with_reducible intro hc))
  exact zEe trivial
theorem split_c (s:List UInt8) (hs:okS s):ab Tryz.prog [] 80 [S s] (ret (.tup [S (af s).1.1,S (af s).1.2,I (af s).2])):=by
  by_cases h:bF s=true
  case neg=>
    rw [ug h]
    refine zJ Tryz.func80 Tryz.ntmps80 Tryz.results80 ?_;simp only [go_sem]
    (refine zW qw (z1 ((good_c s hs).re (congrArg B (eq_false_of_ne_true h)))) trivial (z1 ?_)<;>(repeat with_reducible intro hc))
    exact zEe trivial
  rcases m7 h with rfl | ⟨ps,p,hn,e,hl,hj⟩
  · rw [mL]
    refine zJ Tryz.func80 Tryz.ntmps80 Tryz.results80 ?_;simp only [go_sem]
    (refine zW qw (z1 ((good_c [47] hs).re (congrArg B h))) trivial (z1 ?_)<;>(repeat with_reducible intro hc))
    exact zEe trivial
  have hsp:=mZ hn hl
  rw [←e] at hsp hl
  rw [hsp]
  rw [hj] at e
  have hp:=oE (hn p (by simp))
  have hlen:=Bw (cq ps) p 47
  rw [←e] at hlen
  have hp0:p≠[]:=fun h1=>by
    have:=hn p (by simp)
    rw [h1] at this;revert this;decide
  have hpl:=List.length_pos_iff.2 hp0
  have h47:¬ s=[47]:=fun h0=>by
    rw [h0,List.length_singleton] at hlen;omega
  have hlast:ab Tryz.prog [] 136 [S (cq ps++47::p),.d (.int .u8 47)] (ret (I (cq ps).length)):=xb (cq ps) p 47 hp (by rw [←e];exact hs)
  rw [←e] at hlast
  refine zJ Tryz.func80 Tryz.ntmps80 Tryz.results80 ?_;simp only [go_sem]
  (refine zW qw (z2 ((good_c s hs).re (congrArg B h)) hlast) @h47 (z2 ?_ ?_)<;>(repeat with_reducible intro hc))
  · have e0:cq ps=[]:=List.eq_nil_of_length_eq_zero hc
    have eps:ps=[]:=Decidable.byContradiction fun h=>yC h e0
    have e1:List.take (s.length - 1) (List.drop 1 s)=p:=by
      rw [List.take_of_length_le (by simp),e,e0];rfl
    have e2:bZ ps=[47]:=by rw [eps];rfl
    rw [e2]
    exact zEe @e1
  · have eps:ps≠[]:=fun h=>hc (by rw [h];rfl)
    have e1:List.take (s.length - ((cq ps).length+1)) (List.drop ((cq ps).length+1) s)=p:=by
      rw [List.take_of_length_le (by simp),e,←List.drop_drop,List.drop_left];rfl
    have e2:bZ ps=cq ps:=by unfold bZ;rw [if_neg eps]
    have e3:List.take (cq ps).length s=cq ps:=by rw [e,List.take_left]
    have e4:(((cq ps).length:Int)+1).toNat=(cq ps).length+1:=by omega
    rw [e2]
    exact zEe (zx @e4 (zx @e1 (zx @e3 @Nat.sub_zero)))
def aM (t:ATree):List (List UInt8):=t.nodes.map ANode.path
def nd (t:ATree) (k:Nat):ANode:=t.nodes.getD k default
def eD (l:List Int) (k:Nat):Prop:=1≤l.getD k default∧l.getD k default≤2147483647∧(0 < k→l.getD (k - 1) default < l.getD k default)
instance (l:List Int) (k:Nat):Decidable (eD l k):=by unfold eD;infer_instance
def ml (t:ATree) (k:Nat):Prop:=bF (nd t k).path=true∧(nd t k).data.length≤256∧(0 < k→(nd t (k - 1)).path < (nd t k).path)
instance (t:ATree) (k:Nat):Decidable (ml t k):=by unfold ml;infer_instance
def ra (t:ATree) (s:AStat):Prop:=0≤s.version∧s.version≤2147483647∧0≤s.cversion∧s.cversion≤2147483647∧0≤s.czxid∧s.czxid≤s.mzxid∧s.czxid≤s.pzxid∧s.mzxid≤t.zxid∧s.pzxid≤t.zxid
instance (t:ATree) (s:AStat):Decidable (ra t s):=by unfold ra;infer_instance
def tf (t:ATree) (s:AStat):Prop:=s.owner≠0→s.owner∈t.sessions∧s.kids=0
instance (t:ATree) (s:AStat):Decidable (tf t s):=by unfold tf;infer_instance
def tA (t:ATree) (k:Nat):List UInt8:=(af (nd t k).path).1.1
def kidsN (t:ATree) (p:List UInt8) (n:Nat):Nat:=((List.range n).filter fun j=>decide (tA t j=p)).length
def upB (t:ATree) (k:Nat):Prop:=k=0∨tA t k∈aM t
instance (t:ATree) (k:Nat):Decidable (upB t k):=by unfold upB;infer_instance
def iS (t:ATree):Prop:=1≤t.nodes.length∧t.nodes.length≤400∧(nd t 0).path=[47]∧(nd t 0).stat.owner=0∧bV t.zxid
instance (t:ATree):Decidable (iS t):=by unfold iS;infer_instance
def aJ (t:ATree):Bool:=decide (iS t∧(∀ k,k < t.sessions.length→eD t.sessions k)∧(∀ k,k < t.nodes.length→ml t k)∧
  ∀ k,k < t.nodes.length→ra t (nd t k).stat∧tf t (nd t k).stat∧upB t k∧(nd t k).stat.kids=kidsN t (nd t k).path t.nodes.length)
theorem bt {t:ATree}:aJ t=true↔iS t∧(∀ k,k < t.sessions.length→eD t.sessions k)∧(∀ k,k < t.nodes.length→ml t k)∧
    ∀ k,k < t.nodes.length→ra t (nd t k).stat∧tf t (nd t k).stat∧upB t k∧(nd t k).stat.kids=kidsN t (nd t k).path t.nodes.length:=by unfold aJ;rw [decide_eq_true_eq]
theorem aW (t:ATree) (k:Nat):(aM t).getD k []=(nd t k).path:=gi ANode.path t.nodes k default
theorem aQ (t:ATree):(aM t).length=t.nodes.length:=by unfold aM;simp
theorem m4 {l:List Int} (h:∀ k,k < l.length→eD l k):fB l:=fun k hk=>by
  have:=(h (k+1) (by omega)).2.2 (by omega)
  simpa using this
theorem xV {t:ATree} (h:∀ k,k < t.nodes.length→ml t k):aY (aM t):=fun k hk=>by
  rw [aQ] at hk
  have:=(h (k+1) hk).2.2 (by omega)
  rw [aW,aW]
  simpa using this
theorem aT {t:ATree} (h:aJ t=true):aY (aM t):=xV (bt.1 h).2.2.1
theorem jE {t:ATree} (h:aJ t=true):fB t.sessions:=m4 (bt.1 h).2.1
theorem dg {t:ATree} (h:aJ t=true):iS t:=(bt.1 h).1
theorem findU_c (t:ATree) (key:List UInt8) (h:t.nodes.length*88≤140737488351232):ab Tryz.prog [] 74 [t.av,S key] (ret (.tup [I (bsN (aM t) key),B (ip (aM t) key)])):=by
  unfold aM
  refine zJ Tryz.func74 Tryz.ntmps74 Tryz.results74 ?_;simp only [go_sem]
  (refine zW qw (z1 (DM t.nodes key h)) trivial (z1 ?_)<;>(repeat with_reducible intro hc))
  exact zEe trivial
theorem vm (t:ATree) (key:List UInt8) (h:t.nodes.length*88≤140737488351232) (hr:aY (aM t)):ab Tryz.prog [] 74 [t.av,S key] (ret (.tup [I (place (aM t) key),B (decide (key∈aM t))])):=by
  have:=findU_c t key h
  rwa [uN hr,ny hr] at this
theorem open_c (t:ATree) (s:Int) (h:t.sessions.length*8≤140737488351232) (hr:fB t.sessions):ab Tryz.prog [] 79 [t.av,I s] (ret (B (decide (s∈t.sessions)))):=by
  refine zJ Tryz.func79 Tryz.ntmps79 Tryz.results79 ?_;simp only [go_sem]
  (refine zW qw (z1 (v7 t.sessions s h hr)) trivial (z1 ?_)<;>(repeat with_reducible intro hc))
  exact zEe trivial
def aP (t:ATree) (key:List UInt8):ANode×Int:=if key∈aM t then (nd t (place (aM t) key),0) else (default,7)
theorem iT (t:ATree) (key:List UInt8) (h:t.nodes.length*88≤140737488351232) (hr:aY (aM t)):ab Tryz.prog [] 43 [t.av,S key] (ret (.tup [(aP t key).1.av,I (aP t key).2])):=by
  by_cases hm:key∈aM t
  · have hp:=(ap hr hm).1
    rw [aQ] at hp
    unfold aP
    rw [if_pos hm]
    refine zJ Tryz.func43 Tryz.ntmps43 Tryz.results43 ?_;simp only [go_sem]
    (refine zW qw (z1 ((vm t key h hr).re (by rw [decide_eq_true hm]))) trivial (z1 ?_)<;>(repeat with_reducible intro hc))
    exact zEe @nd.eq_1
  · unfold aP
    rw [if_neg hm]
    refine zJ Tryz.func43 Tryz.ntmps43 Tryz.results43 ?_;simp only [go_sem]
    (refine zW qw (z1 ((vm t key h hr).re (by rw [decide_eq_false hm]))) trivial (z1 ?_)<;>(repeat with_reducible intro hc))
    exact zEe dfl
def t00:ATree:=⟨0,[⟨[47],[],⟨0,0,0,0,0,0,0⟩⟩],[]⟩
theorem F8:ab Tryz.prog [] 31 [] (ret t00.av):=by
  refine zJ Tryz.func31 Tryz.ntmps31 Tryz.results31 ?_;simp only [go_sem]
  (refine zW qw zn trivial (z1 ?_)<;>(repeat with_reducible intro hc))
  exact zEe @t00.eq_1
theorem w9 {t:ATree} (hw:t.wf) (k:Nat):okS (t.nodes.getD k default).path∧okS (t.nodes.getD k default).data:=by
  by_cases e:k < t.nodes.length
  · have:=hw.2.1.2 _ (bX t.nodes k e)
    exact ⟨this.1,this.2.1⟩
  · rw [List.getD_eq_getElem?_getD,List.getElem?_eq_none (by omega)];exact ⟨show okS [] by unfold okS;decide,show okS [] by unfold okS;decide⟩
theorem H8 {s:List UInt8} (h:(af s).2=0):(af s).1.1≠[]:=by
  unfold af at h ⊢
  split at h
  · rename_i hg
    split at h
    · cases h
    · rename_i h0
      rw [if_pos hg,if_neg h0]
      show bZ _≠[]
      unfold bZ
      split
      · decide
      · rename_i h1;exact yC h1
  · cases h
theorem DW {s:List UInt8} (h:¬ (af s).2=0):(af s).1.1=[]:=by
  unfold af at h ⊢
  split at h
  · rename_i hg
    split at h
    · rename_i h0;rw [if_pos hg,if_pos h0]
    · exact absurd rfl h
  · rename_i hg;rw [if_neg hg]
theorem ya {s:List UInt8} (h:bF s=true):s≠[]:=by rintro rfl;revert h;decide
theorem mP (t:ATree) (p:List UInt8) (k:Nat):kidsN t p (k+1)=kidsN t p k+if tA t k=p then 1 else 0:=by
  unfold kidsN
  rw [List.range_succ,List.filter_append,List.length_append]
  by_cases e:tA t k=p
  · rw [if_pos e,List.filter_cons_of_pos (by simpa using e)];rfl
  · rw [if_neg e,List.filter_cons_of_neg (by simpa using e)];rfl
theorem Gv (t:ATree) (p:List UInt8) (k:Nat):kidsN t p k≤k:=by
  unfold kidsN
  exact Nat.le_trans (List.length_filter_le _ _) (by rw [List.length_range];exact Nat.le_refl _)
theorem ja {t:ATree} (h:aJ t=true→False):aJ t=false:=by
  cases e:aJ t
  · rfl
  · exact (h e).elim
theorem Bu {t:ATree} (h:¬ iS t):false=aJ t:=(ja fun h2=>h (dg h2)).symm
theorem J3 {t:ATree} {k:Nat} (hk:k < t.sessions.length) (h:¬ eD t.sessions k):false=aJ t:=(ja fun h2=>h ((bt.1 h2).2.1 k hk)).symm
theorem xu {t:ATree} {k:Nat} (hk:k < t.nodes.length) (h:¬ (ra t (nd t k).stat∧tf t (nd t k).stat∧upB t k∧(nd t k).stat.kids=kidsN t (nd t k).path t.nodes.length)):false=aJ t:=(ja fun h2=>h ((bt.1 h2).2.2.2 k hk)).symm
def EF (t:ATree) (i:Nat):Prop:=((((((((((bF (nd t i).path=true∧((nd t i).data.length:Int)≤256)∧((i:Int)≤0∨(nd t (i - 1)).path < (nd t i).path))∧0≤(nd t i).stat.version)∧(nd t i).stat.version≤2147483647)∧0≤(nd t i).stat.cversion)∧(nd t i).stat.cversion≤2147483647)∧
  0≤(nd t i).stat.czxid)∧(nd t i).stat.czxid≤(nd t i).stat.mzxid)∧(nd t i).stat.czxid≤(nd t i).stat.pzxid)∧(nd t i).stat.mzxid≤t.zxid)∧(nd t i).stat.pzxid≤t.zxid
theorem wJ {t:ATree} {i:Nat} (h:EF t i):ml t i∧ra t (nd t i).stat:=by
  obtain ⟨⟨⟨⟨⟨⟨⟨⟨⟨⟨⟨h1,h2⟩,h3⟩,h4⟩,h5⟩,h6⟩,h7⟩,h8⟩,h9⟩,h10⟩,h11⟩,h12⟩:=h
  exact ⟨⟨h1,by omega,fun h0=>h3.resolve_left (by omega)⟩,h4,h5,h6,h7,h8,h9,h10,h11,h12⟩
theorem Kl {s:List UInt8} (hg:bF s=true) (h:¬ (af s).2=0):s=[47]:=by
  unfold af at h
  rw [if_pos hg] at h
  split at h
  · rename_i h0
    have:=(ji hg).1
    rw [h0] at this;exact this
  · exact absurd rfl h
theorem qE {t:ATree}:∀ {i:Nat},(∀ j,j≤i→ml t j)→0 < i→(nd t 0).path < (nd t i).path
  | 0,_,h=>by omega
  | i+1,h,_=>by
    have:=(h (i+1) (Nat.le_refl _)).2.2 (by omega)
    rw [Nat.add_sub_cancel] at this
    by_cases e:i=0
    · subst e;exact this
    · exact List.lt_trans (qE (fun j hj=>h j (by omega)) (by omega)) this
theorem Kx {t:ATree} {i:Nat} (hh:iS t) (hA:∀ j,j≤i→ml t j) (he:¬ (af (nd t i).path).2=0):upB t i:=by
  by_cases e:i=0
  · exact .inl e
  · have h1:=qE hA (by omega)
    rw [Kl (hA i (Nat.le_refl _)).1 he,hh.2.2.1] at h1
    exact absurd h1 (List.lt_irrefl _)
theorem K5 {t:ATree} {i:Nat} (hi:i < t.nodes.length) (h0:(af (nd t i).path).2=0) (h:ip (aM t) (af (nd t i).path).1.1=false):false=aJ t:=by
  refine (ja fun h2=>?_).symm
  rw [ny (aT h2),decide_eq_false_iff_not] at h
  rcases ((bt.1 h2).2.2.2 i hi).2.2.1 with e | e
  · subst e
    rw [(dg h2).2.2.1] at h0
    exact absurd h0 (by decide)
  · exact h e
theorem Lm {t:ATree} {i:Nat} (hi:i < t.nodes.length) (h0:¬ (nd t i).stat.owner=0) (h:¬ (nd t i).stat.owner∈t.sessions∨¬ (nd t i).stat.kids=0):false=aJ t:=
  xu hi fun ⟨_,ho,_,_⟩=>by
    obtain ⟨a,b⟩:=ho h0
    rcases h with h | h
    · exact h a
    · exact h b
structure TLoop (t:ATree) (i:Nat) (m:List (List UInt8×Int)):Prop where
  le:i≤t.nodes.length
  ok:∀ j,j < i→ml t j∧ra t (nd t j).stat∧tf t (nd t j).stat∧upB t j
  cnt:∀ p,p≠[]→jJ m p=(kidsN t p i:Nat)
theorem BC {t:ATree} {i:Nat} {m:List (List UInt8×Int)} (h:TLoop t i m) (hi:i < t.nodes.length) (hc:EF t i) (ho:tf t (nd t i).stat) (h0:(af (nd t i).path).2=0) (hf:ip (aM t) (af (nd t i).path).1.1=true) :
    TLoop t (i+1) (mset m (af (nd t i).path).1.1 (jJ m (af (nd t i).path).1.1+1)):=by
  refine ⟨by omega,fun j hj=>?_,fun p hp=>?_⟩
  · by_cases e:j=i
    · subst e;obtain ⟨a,b⟩:=wJ hc;exact ⟨a,b,ho,.inr (Be hf)⟩
    · exact h.ok j (by omega)
  · have:=Dl m (af (nd t i).path).1.1 p
    unfold HT at this
    rw [this,h.cnt p hp,mP]
    by_cases e:p=(af (nd t i).path).1.1
    · rw [if_pos e,if_pos (show tA t i=p from e.symm)];omega
    · rw [if_neg e,if_neg (show ¬ tA t i=p from fun e2=>e e2.symm)];omega
theorem BQ {t:ATree} {i:Nat} {m:List (List UInt8×Int)} (h:TLoop t i m) (hh:iS t) (hi:i < t.nodes.length) (hc:EF t i) (ho:tf t (nd t i).stat) (h0:¬ (af (nd t i).path).2=0):TLoop t (i+1) m:=by
  obtain ⟨a,b⟩:=wJ hc
  have hA:∀ j,j≤i→ml t j:=fun j hj=>by
    by_cases e:j=i
    · subst e;exact a
    · exact (h.ok j (by omega)).1
  refine ⟨by omega,fun j hj=>?_,fun p hp=>?_⟩
  · by_cases e:j=i
    · subst e;exact ⟨a,b,ho,Kx hh hA h0⟩
    · exact h.ok j (by omega)
  · rw [h.cnt p hp,mP,if_neg (show ¬ tA t i=p from fun e2=>hp (e2.symm.trans (DW h0)))];rfl
theorem BV {t:ATree} {i:Nat} {m:List (List UInt8×Int)} (h:TLoop t i m) (h4:t.nodes.length≤400) (h0:(af (nd t i).path).2=0):IntKind.i64.wrap (jJ m (af (nd t i).path).1.1+1)=jJ m (af (nd t i).path).1.1+1:=by
  have a:=h.cnt _ (H8 h0)
  have b:=Gv t (af (nd t i).path).1.1 i
  have c:=h.le
  simp [IntKind.wrap,IntKind.bits,IntKind.signed];omega
theorem BD {t:ATree} {i:Nat} (h:(nd t i).stat.owner∈t.sessions∧(nd t i).stat.kids=0):tf t (nd t i).stat:=fun _=>h
theorem wS {t:ATree} {i:Nat} (h:(nd t i).stat.owner=0):tf t (nd t i).stat:=fun h2=>absurd h h2
theorem CA {t:ATree} {m:List (List UInt8×Int)} (hh:iS t) (hs:∀ j,j < t.sessions.length→eD t.sessions j) (h:TLoop t t.nodes.length m) (hk:∀ j,j < t.nodes.length→(nd t j).stat.kids=jJ m (nd t j).path):aJ t=true:=by
  refine bt.2 ⟨hh,hs,fun k hk=>(h.ok k hk).1,fun k hk2=>?_⟩
  obtain ⟨a,b,c,d⟩:=h.ok k hk2
  refine ⟨b,c,d,?_⟩
  rw [hk k hk2,h.cnt _ (ya a.1)]
theorem Kz {t:ATree} {m:List (List UInt8×Int)} {k:Nat} (h:TLoop t t.nodes.length m) (hk:k < t.nodes.length) (hc:¬ (nd t k).stat.kids=jJ m (nd t k).path):false=aJ t:=
  xu hk fun ⟨_,_,_,h2⟩=>hc (by rw [h2,h.cnt _ (ya (h.ok k hk).1.1)])
set_option maxHeartbeats 8000000 in
theorem iI (t:ATree) (hw:t.wf):ab Tryz.prog [] 34 [t.av] (ret (B (aJ t))):=by
  have hok:=w9 hw
  obtain ⟨hz,⟨hn,hnw⟩,⟨hs,hsw⟩⟩:=hw
  refine zJ Tryz.func34 Tryz.ntmps34 Tryz.results34 ?_;simp only [go_sem]
  (repeat' first
| (with_reducible refine AR.f ?_)
| refine an (by decide) ?_
| (with_reducible refine AWP.cond rfl ?_ ?_<;>intro hc<;>(try simp only [hcs,beq_iff_eq,ge_iff_le,gt_iff_lt] at hc))
| ((first | ((first | (with_reducible first | refine zR ?_ | refine zQ (by decide +kernel) ?_ | refine zD (by decide +kernel) ?_ | refine zE (by decide +kernel) ?_ | refine zG (by decide +kernel) ?_));intro K hK) | ((first | refine zA (zgood_c t.zxid) ?_ ?_ ?_ ?_ ?_);(focus exact rfl);(focus exact rfl);iterate 2 (focus ((try simp (disch:=omega) only [go_sem,aa])<;>(try omega)<;>fail))) | ((first | refine zX (zgood_c t.zxid) rfl ?_ ?_);(focus ((try simp (disch:=omega) only [go_sem,aa])<;>(try omega)<;>fail))) | ((first | (with_reducible refine aunder_i ?_ ?_<;>intro hg) | with_reducible intro hg)<;>(first | (exfalso;simp at hg;done) | (have hg':=hg;(try simp only [hcs,beq_iff_eq,ge_iff_le,gt_iff_lt] at hg');(try simp only [hg])))))<;>(try simp (disch:=omega) only [go_sem,aa])<;>(repeat' with_reducible refine And.intro ?_ ?_)<;>(try (with_reducible refine hK _ ?_;clear hK K)))
| omega)
  · (refine zF rfl ?_ ?_ ?_ ?_;(iterate 3 (focus ((try simp (disch:=omega) only [go_sem,aa])<;>(try omega)<;>fail)));(try simp (disch:=omega) only [go_sem,aa,I,B,S,zj]))
    refine Bu fun ⟨a1,a2,a3,a4,a5⟩=>?_
    rcases hc with (((h | h) | h) | h) | h
    · omega
    · omega
    · exact h a3
    · exact h a4
    · exact h a5
  rotate_left
  · simp_all
  · (refine zF rfl ?_ ?_ ?_ ?_;(iterate 3 (focus ((try simp (disch:=omega) only [go_sem,aa])<;>(try omega)<;>fail)));(try simp (disch:=omega) only [go_sem,aa,I,B,S,zj]))
    refine Bu fun ⟨a1,a2,a3,a4,a5⟩=>?_
    rcases hg' with ((h | h) | h) | h
    · omega
    · omega
    · exact h a3
    · exact h a4
  have hhead:iS t:=⟨by omega,by omega,hc.1.1.2,hc.1.2,hc.2⟩
  have h400:t.nodes.length≤400:=by omega
  clear hc hg
  refine AWP.loopS (ι:=Nat) (fun k=>k≤t.sessions.length∧∀ j,j < k→eD t.sessions j) (fun k=>t.sessions.length - k) [1,50,51] (fun k=>[(52,I k)]) 0 ?_ (by simp (disch:=omega) only [go_sem,aa,true_and]) ?_
  · exact ⟨by omega,fun j hj=>by omega⟩
  intro k ⟨hk,hk2⟩
  simp only [go_sem]
  (refine zW qw zn @lN (z3 ?_ ?_ ?_)<;>(repeat with_reducible intro hc))
  · (refine zF rfl ?_ ?_ ?_ ?_;(iterate 3 (focus ((try simp (disch:=omega) only [go_sem,aa])<;>(try omega)<;>fail)));(try simp (disch:=omega) only [go_sem,aa,I,B,S,zj]))
    refine J3 (k:=k) (by omega) fun ⟨a1,a2,a3⟩=>?_
    rcases hc with (h | h) | h
    · omega
    · omega
    · exact absurd (a3 (by omega)) (by omega)
  · refine ⟨k+1,⟨by omega,fun j hj=>?_⟩,by omega,?_⟩
    · by_cases e:j=k
      · subst e;exact ⟨hc.1.1,hc.1.2,fun h0=>hc.2.resolve_left (by omega)⟩
      · exact hk2 j (by omega)
    exact zSm trivial
  have hss:∀ j,j < t.sessions.length→eD t.sessions j:=fun j hj=>hk2 j (by omega)
  have hri:=m4 hss
  clear hk2 hk hc
  refine AWP.loopB (ι:=Nat×List (List UInt8×Int)) (fun v=>TLoop t v.1 v.2) (fun v=>t.nodes.length - v.1) [1,5,80,81] (fun v=>[(82,I v.1)]) (fun v=>[.cells [.d (.int .i64 t.zxid),.d (.sl 9 (t.nodes.map ANode.row)),.d (.sl 1 (t.sessions.map cO))],.map v.2]) (0,[]) ?_ ?_ ?_
  · exact ⟨by simp,fun j hj=>by simp at hj,fun p hp=>rfl⟩
  · simp only [go_sem];exact zSm trivial
  intro ⟨i,m⟩ hT
  simp only at hT
  have hokk:=(hok i).1
  have hokd:=(hok i).2
  have hle:=hT.le
  simp only [go_sem]
  (repeat' first
| (with_reducible refine AR.f ?_)
| refine an (by decide) ?_
| (with_reducible refine AWP.cond rfl ?_ ?_<;>intro hc<;>(try simp only [hcs,beq_iff_eq,ge_iff_le,gt_iff_lt] at hc))
| ((first | ((first | (with_reducible first | refine zR ?_ | refine zQ (by decide +kernel) ?_ | refine zD (by decide +kernel) ?_ | refine zE (by decide +kernel) ?_ | refine zG (by decide +kernel) ?_));intro K hK) | ((first | refine acallH_sc (good_c _ hokk) rfl rfl ?_ ?_ ?_ | refine acallQ_sc (good_c _ hokk) rfl rfl ?_ ?_ ?_ | refine acallH_sc (open_c t _ hs hri) rfl rfl ?_ ?_ ?_ | refine acallQ_sc (open_c t _ hs hri) rfl rfl ?_ ?_ ?_ | refine acallH_sc (split_c _ hokk) rfl rfl ?_ ?_ ?_ | refine acallQ_sc (split_c _ hokk) rfl rfl ?_ ?_ ?_ | refine acallH_sc (findU_c t _ hn) rfl rfl ?_ ?_ ?_ | refine acallQ_sc (findU_c t _ hn) rfl rfl ?_ ?_ ?_);iterate 2 (focus ((try simp (disch:=omega) only [go_sem,aa,lN,k9,List.append_eq])<;>(try omega)<;>fail))) | ((first | refine zX (good_c _ hokk) rfl ?_ ?_ | refine zX (open_c t _ hs hri) rfl ?_ ?_ | refine zX (split_c _ hokk) rfl ?_ ?_ | refine zX (findU_c t _ hn) rfl ?_ ?_);(focus ((try simp (disch:=omega) only [go_sem,aa,lN,k9,List.append_eq])<;>(try omega)<;>fail))) | ((first | (with_reducible refine aunder_i ?_ ?_<;>intro hg) | with_reducible intro hg)<;>(first | (exfalso;simp at hg;done) | (have hg':=hg;(try simp only [hcs,beq_iff_eq,ge_iff_le,gt_iff_lt] at hg');(try simp only [hg])))))<;>(try simp (disch:=omega) only [go_sem,aa,lN,k9,List.append_eq])<;>(repeat' with_reducible refine And.intro ?_ ?_)<;>(try (with_reducible refine hK _ ?_;clear hK K)))
| omega)
  · (refine zF rfl ?_ ?_ ?_ ?_;(iterate 3 (focus ((try simp (disch:=omega) only [go_sem,aa])<;>(try omega)<;>fail)));(try simp (disch:=omega) only [go_sem,aa,I,B,S,zj]))
    refine (ja fun h2=>?_).symm
    obtain ⟨a1,a2,a3⟩:=(bt.1 h2).2.2.1 i (by assumption)
    obtain ⟨b1,b2,b3,b4,b5,b6,b7,b8,b9⟩:=((bt.1 h2).2.2.2 i (by assumption)).1
    unfold nd at a1 a2 a3 b1 b2 b3 b4 b5 b6 b7 b8 b9
    rcases hc with ((((((((((h | h) | h) | h) | h) | h) | h) | h) | h) | h) | h) | h
    · rw [a1] at h;cases h
    · omega
    · exact h.2 (a3 (by omega))
    all_goals omega
  · (refine zF rfl ?_ ?_ ?_ ?_;(iterate 3 (focus ((try simp (disch:=omega) only [go_sem,aa])<;>(try omega)<;>fail)));(try simp (disch:=omega) only [go_sem,aa,I,B,S,zj]))
    exact Lm (i:=i) (by assumption) hg' hc
  · (refine zF rfl ?_ ?_ ?_ ?_;(iterate 3 (focus ((try simp (disch:=omega) only [go_sem,aa])<;>(try omega)<;>fail)));(try simp (disch:=omega) only [go_sem,aa,I,B,S,zj]))
    exact K5 (i:=i) (by assumption) (by assumption) hc
  · refine ⟨(i+1,_),BC hT (by assumption) (by assumption) (BD (by assumption)) (by assumption) hc,by simp only;omega,?_⟩
    have hw1:=BV hT h400 (by assumption)
    unfold nd at hw1 ⊢
    exact zFr [0,1] @hw1
  · refine ⟨(i+1,m),BQ hT hhead (by assumption) (by assumption) (BD (by assumption)) hc,by simp only;omega,?_⟩
    exact zFr [0,1] trivial
  · (refine zF rfl ?_ ?_ ?_ ?_;(iterate 3 (focus ((try simp (disch:=omega) only [go_sem,aa])<;>(try omega)<;>fail)));(try simp (disch:=omega) only [go_sem,aa,I,B,S,zj]))
    exact K5 (i:=i) (by assumption) (by assumption) hc
  · refine ⟨(i+1,_),BC hT (by assumption) (by assumption) (wS hg') (by assumption) hc,by simp only;omega,?_⟩
    have hw1:=BV hT h400 (by assumption)
    unfold nd at hw1 ⊢
    exact zFr [0,1] @hw1
  · refine ⟨(i+1,m),BQ hT hhead (by assumption) (by assumption) (wS hg') hc,by simp only;omega,?_⟩
    exact zFr [0,1] trivial
  obtain rfl:i=t.nodes.length:=by omega
  clear hc
  refine AWP.loopB (ι:=Nat) (fun k=>k≤t.nodes.length∧∀ j,j < k→(nd t j).stat.kids=jJ m (nd t j).path) (fun k=>t.nodes.length - k) [5,206,207] (fun k=>[(208,I k)]) (fun k=>[.cells [.d (.int .i64 t.zxid),.d (.sl 9 (t.nodes.map ANode.row)),.d (.sl 1 (t.sessions.map cO))],.map m]) 0 ?_ ?_ ?_
  · exact ⟨by omega,fun j hj=>by omega⟩
  · simp only [go_sem];exact zSm trivial
  intro j ⟨hj,hj2⟩
  simp only [go_sem]
  (refine zW qw zn trivial (z3 ?_ ?_ ?_)<;>(repeat with_reducible intro hc))
  · (refine zF rfl ?_ ?_ ?_ ?_;(iterate 3 (focus ((try simp (disch:=omega) only [go_sem,aa])<;>(try omega)<;>fail)));(try simp (disch:=omega) only [go_sem,aa,I,B,S,zj]))
    exact Kz (k:=j) hT (by assumption) hc
  · refine ⟨j+1,⟨by omega,fun q hq=>?_⟩,by omega,?_⟩
    · by_cases e:q=j
      · subst e;exact hc
      · exact hj2 q (by omega)
    exact zFr [0,1] trivial
  · (refine zF rfl ?_ ?_ ?_ ?_;(iterate 3 (focus ((try simp (disch:=omega) only [go_sem,aa])<;>(try omega)<;>fail)));(try simp (disch:=omega) only [go_sem,aa,I,B,S,zj]))
    exact (CA hhead hss hT (fun q hq=>hj2 q (by omega))).symm
theorem kV:aJ t00=true:=by decide +kernel
theorem qTw0:Pls [Plan.takes [0,1,3] (.fork 2 (Plan.takes [4,6,5,7,8,9] .done) 4 (Plan.takes [2,6,5,7,8,9] .done))]:=pls _
attribute [go_sem] Tryz.ntmps76 Tryz.results76
def o8 (t:ATree) (x:ATxn) (there:Int):Int:=
  if there=0 then 8 else if ¬ (aP t (af x.path).1.1).2=0 then (aP t (af x.path).1.1).2 else if ¬ (aP t (af x.path).1.1).1.stat.owner=0 then 11
  else if ¬ x.owner=0∧¬ x.owner=x.session then 12 else if 400≤t.nodes.length then 6 else 0
theorem Kg (t:ATree) (x:ATxn) (there:Int) (h:t.nodes.length*88≤140737488351232) (hp:okS x.path) (hr:aY (aM t)):ab Tryz.prog [] 120 [t.av,x.av,.d (.int .i64 there)] (ret (I (o8 t x there))):=by
  unfold o8
  refine zJ Tryz.func120 Tryz.ntmps120 Tryz.results120 ?_;simp only [go_sem]
  (refine zW qw (z2 (split_c x.path hp) (iT t (af x.path).1.1 h hr)) trivial (zc ?_ (zc ?_ (z4 ?_ ?_ ?_ ?_)))<;>(repeat with_reducible intro hc))
  all_goals (refine zF rfl ?_ ?_ ?_ ?_;(iterate 3 (focus ((try simp (disch:=omega) only [go_sem,aa])<;>(try omega)<;>fail)));(try simp (disch:=omega) only [go_sem,aa,I,B,S,zj]))
  all_goals first | (simp [*];done) | (simp only [*,not_true_eq_false,not_false_eq_true,if_true,if_false];split<;>first | rfl | omega | (exfalso;rename_i h;revert h;simp_all;done) | (exfalso;omega)) | skip
def cV (t:ATree) (x:ATxn):Int:=
  if aJ t=false then 3 else if ¬ aO x=0 then aO x else if x.zxid≤t.zxid then 13
  else if x.op=1 then (if x.session∈t.sessions then 8 else 0)
  else if ¬ x.session∈t.sessions then 12
  else if x.op=3 then o8 t x (aP t x.path).2
  else if x.op=4 then (if (aP t x.path).2=0∧0 < (aP t x.path).1.stat.kids then 10 else (aP t x.path).2)
  else if x.op=5 then (if (aP t x.path).2=0∧¬ x.version=(aP t x.path).1.stat.version+1 then 9 else (aP t x.path).2)
  else 0
set_option maxHeartbeats 4000000 in
theorem lP (t:ATree) (x:ATxn) (hw:t.wf) (hp:okS x.path) (hd:okS x.data):ab Tryz.prog [] 67 [t.av,x.av] (ret (I (cV t x))):=by
  obtain ⟨h1,h2⟩:t.nodes.length*88≤140737488351232∧t.sessions.length*8≤140737488351232:=⟨hw.2.1.1,hw.2.2.1⟩
  unfold cV
  by_cases hg:aJ t=true
  · have hr:=aT hg
    have hri:=jE hg
    have hv:-1000≤(aP t x.path).1.stat.version∧(aP t x.path).1.stat.version≤2147483647:=by
      unfold aP;split
      · rename_i hm
        have hpl:=(ap hr hm).1
        rw [aQ] at hpl
        obtain ⟨b1,b2,_⟩:=((bt.1 hg).2.2.2 _ hpl).1
        exact ⟨by simp only;omega,b2⟩
      · exact ⟨by decide,by decide⟩
    refine zJ Tryz.func67 Tryz.ntmps67 Tryz.results67 ?_;simp only [go_sem]
    (refine zW qw (zc ((iI t hw).re (congrArg B hg)) (z4 (qx x hp hd) (open_c t x.session h2 hri) (iT t x.path h1 hr) (Kg t x _ h1 hp hr))) trivial (zc ?_ (zc ?_ (zc ?_ (zc ?_ (zc ?_ (zc ?_ (zc ?_ (z4 ?_ ?_ ?_ ?_))))))))<;>(repeat with_reducible intro hc))
    all_goals (refine zF rfl ?_ ?_ ?_ ?_;(iterate 3 (focus ((try simp (disch:=omega) only [go_sem,aa])<;>(try omega)<;>fail)));(try simp (disch:=omega) only [go_sem,aa,I,B,S,zj]))
    all_goals (repeat' split)
    all_goals first | rfl | (exfalso;omega) | (exfalso;simp_all;done)
  · have hg2:aJ t=false:=by simpa using hg
    refine zJ Tryz.func67 Tryz.ntmps67 Tryz.results67 ?_;simp only [go_sem]
    (refine zW qw (z1 ((iI t hw).re (congrArg B hg2))) trivial (z1 ?_)<;>(repeat with_reducible intro hc))
    all_goals (refine zF rfl ?_ ?_ ?_ ?_;(iterate 3 (focus ((try simp (disch:=omega) only [go_sem,aa])<;>(try omega)<;>fail)));(try simp (disch:=omega) only [go_sem,aa,I,B,S,zj]))
    rw [if_pos hg2]
theorem xP (l:List ANode) (h:l.length*88≤140737488351232):ab Tryz.prog [] 121 [.d (.sl 9 (l.map ANode.row))] (own 9 (l.map ANode.row)):=by
  refine zJ Tryz.func121 Tryz.ntmps121 Tryz.results121 ?_;simp only [go_sem]
  (repeat' first
| (with_reducible refine AR.f ?_)
| refine an (by decide) ?_
| (with_reducible refine AWP.cond rfl ?_ ?_<;>intro hc<;>(try simp only [hcs,beq_iff_eq,ge_iff_le,gt_iff_lt] at hc))
| ((first | ((first | (with_reducible first | refine zR ?_ | refine zQ (by decide +kernel) ?_ | refine zD (by decide +kernel) ?_ | refine zE (by decide +kernel) ?_ | refine zG (by decide +kernel) ?_));intro K hK) | ((first | (with_reducible refine aunder_i ?_ ?_<;>intro hg) | with_reducible intro hg)<;>(first | (exfalso;simp at hg;done) | (have hg':=hg;(try simp only [hcs,beq_iff_eq,ge_iff_le,gt_iff_lt] at hg');(try simp only [hg])))))<;>(try simp (disch:=omega) only [go_sem,aa])<;>(repeat' with_reducible refine And.intro ?_ ?_)<;>(try (with_reducible refine hK _ ?_;clear hK K)))
| omega)
  · have e:l.length=0:=by
      rcases Nat.eq_zero_or_pos l.length with h0 | h0
      · exact h0
      · rw [hg h0] at hc;simp at hc
    rw [fS e]
    (refine lm (by first | exact .inl rfl | exact .inr rfl) rfl ?_ ?_<;>simp (disch:=omega) only [go_sem,aa])
  · (refine lk 1 (by first | exact .inl rfl | exact .inr rfl) rfl ?_ rfl rfl ?_<;>(try simp (disch:=omega) only [go_sem,aa,List.length_map]))
theorem At (l:List Int) (h:l.length*8≤140737488351232):ab Tryz.prog [] 122 [.d (.sl 1 (l.map cO))] (own 1 (l.map cO)):=by
  refine zJ Tryz.func122 Tryz.ntmps122 Tryz.results122 ?_;simp only [go_sem]
  (repeat' first
| (with_reducible refine AR.f ?_)
| refine an (by decide) ?_
| (with_reducible refine AWP.cond rfl ?_ ?_<;>intro hc<;>(try simp only [hcs,beq_iff_eq,ge_iff_le,gt_iff_lt] at hc))
| ((first | ((first | (with_reducible first | refine zR ?_ | refine zQ (by decide +kernel) ?_ | refine zD (by decide +kernel) ?_ | refine zE (by decide +kernel) ?_ | refine zG (by decide +kernel) ?_));intro K hK) | ((first | (with_reducible refine aunder_i ?_ ?_<;>intro hg) | with_reducible intro hg)<;>(first | (exfalso;simp at hg;done) | (have hg':=hg;(try simp only [hcs,beq_iff_eq,ge_iff_le,gt_iff_lt] at hg');(try simp only [hg])))))<;>(try simp (disch:=omega) only [go_sem,aa])<;>(repeat' with_reducible refine And.intro ?_ ?_)<;>(try (with_reducible refine hK _ ?_;clear hK K)))
| omega)
  · have e:l.length=0:=by
      rcases Nat.eq_zero_or_pos l.length with h0 | h0
      · exact h0
      · rw [hg h0] at hc;simp at hc
    rw [fS e]
    (refine lm (by first | exact .inl rfl | exact .inr rfl) rfl ?_ ?_<;>simp (disch:=omega) only [go_sem,aa])
  · (refine lk 1 (by first | exact .inl rfl | exact .inr rfl) rfl ?_ rfl rfl ?_<;>(try simp (disch:=omega) only [go_sem,aa,List.length_map]))
theorem jn (t:ATree) (h:t.nodes.length*88≤140737488351232) (h2:t.sessions.length*8≤140737488351232):ab Tryz.prog [] 68 [t.av] (cu (.agg [I t.zxid,.osl 0 9 0 t.nodes.length,.osl 1 1 0 t.sessions.length]) [.rows 9 (t.nodes.map ANode.row),.rows 1 (t.sessions.map cO)]):=by
  refine zJ Tryz.func68 Tryz.ntmps68 Tryz.results68 ?_;simp only [go_sem]
  (refine zW qw (z3 qTw0 (xP _ h) (At _ h2)) trivial (z2 ?_ ?_)<;>(repeat with_reducible intro hc))
  all_goals (refine zO ?_ ?_;(focus ((try simp (disch:=omega) only [go_sem,aa])<;>fail));simp (disch:=omega) only [go_sem,aa];refine ag.of_simp ?_ (ag.same ⟨rfl,rfl⟩);refine zV [2,3] rfl rfl rfl rfl ?_ ?_<;>simp (disch:=omega) only [go_sem,aa,true_or,or_true])
def iy (n:ANode):Bool:=decide (2147483647 < n.stat.cversion)
def Az (l:List ANode):Int:=if l.any iy=true then (l.findIdx iy:Nat) else -1
theorem Ix {l:List ANode} {k:Nat} (h:k < l.length) (h1:iy (l.getD k default)=true) (h2:∀ j,j < k→iy (l.getD j default)=false):Az l=(k:Nat):=by
  rw [List.getD_eq_getElem?_getD,List.getElem?_eq_getElem h] at h1
  have e:l.findIdx iy=k:=(List.findIdx_eq h).2 ⟨h1,fun j hj=>by
    have:=h2 j hj
    rwa [List.getD_eq_getElem?_getD,List.getElem?_eq_getElem (by omega)] at this⟩
  unfold Az
  rw [if_pos (List.any_eq_true.2 ⟨l[k],List.getElem_mem h,h1⟩),e]
theorem Ko {l:List ANode} (h2:∀ j,j < l.length→iy (l.getD j default)=false):l.any iy=false∧Az l=-1:=by
  have e:l.any iy=false:=by
    rw [List.any_eq_false]
    intro x hx
    obtain ⟨j,hj,rfl⟩:=List.getElem_of_mem hx
    have:=h2 j hj
    rw [List.getD_eq_getElem?_getD,List.getElem?_eq_getElem hj] at this
    simpa using this
  exact ⟨e,by unfold Az;rw [e];rfl⟩
theorem EX (l:List ANode) (h:l.length*88≤140737488351232):ab Tryz.prog [] 133 [.d (.sl 9 (l.map ANode.row)),.d (.sc (.func (.func 76) #[] #[]))] (ret (I (Az l))):=by
  refine zJ Tryz.func133 Tryz.ntmps133 Tryz.results133 ?_;simp only [go_sem]
  (refine zW qw zn trivial (z1 ?_)<;>(repeat with_reducible intro hc))
  refine AWP.loopS (ι:=Nat) (fun k=>k≤l.length∧∀ j,j < k→iy (l.getD j default)=false) (fun k=>l.length - k) [0,1,7] (fun k=>[(8,I k)]) 0 ?_ (by simp (disch:=omega) only [go_sem,aa,true_and]) ?_
  · exact ⟨by omega,fun j hj=>by omega⟩
  intro k ⟨hk,hk2⟩
  simp only [go_sem]
  (refine zW qw (z1 (ic Tryz.func76)) trivial (z3 ?_ ?_ ?_)<;>(repeat with_reducible intro hc))
  · rw [Ix (by assumption) (by unfold iy;rw [decide_eq_true_eq];exact hc) hk2]
    exact zEe trivial
  · refine ⟨k+1,⟨by omega,fun j hj=>?_⟩,by omega,?_⟩
    · by_cases e:j=k
      · subst e;unfold iy;rw [decide_eq_false_iff_not];omega
      · exact hk2 j (by omega)
    exact zFr [] trivial
  · rw [(Ko (fun j hj=>hk2 j (by omega))).2]
    exact zEe trivial
theorem F3 (l:List ANode):decide (0≤Az l)=l.any iy:=by
  unfold Az;split
  · rename_i h;rw [h,decide_eq_true_eq];omega
  · rename_i h;rw [show l.any iy=false from by simpa using h];rfl
theorem ik (l:List ANode) (h:l.length*88≤140737488351232):ab Tryz.prog [] 75 [.d (.sl 9 (l.map ANode.row)),.d (.sc (.func (.func 76) #[] #[]))] (ret (B (l.any iy))):=by
  rw [←F3]
  refine zJ Tryz.func75 Tryz.ntmps75 Tryz.results75 ?_;simp only [go_sem]
  (refine zW qw (z1 (EX l h)) trivial (z1 ?_)<;>(repeat with_reducible intro hc))
  exact zEe trivial
end Go.Proofs.YtjcooccnfkfjhaaGreatDoor
