/- A part of what Mem leans on: texts of this claim, one behind the other. No condition. -/
import Derived.Test.YtjcooccnfkfjhaaGreatDoorMemK7
namespace Go.Proofs.YtjcooccnfkfjhaaGreatDoor
set_option linter.unusedVariables false
set_option linter.unusedSimpArgs false
open Go Go.RowKit
set_option maxRecDepth 100000
def jj (l:List AWatch) (w:AWatch):List AWatch×Int:=
 if w.kind≠1∧w.kind≠2 then ([],4) else if ¬ bw w.path=true then ([],2) else if w.session<1∨2147483647<w.session then ([],3)
 else if w∈l then (l,0) else if 400≤l.length then ([],6) else (l++[w],0)
def jR (l:List AWatch) (s:Int):List AWatch:=l.filter fun w=>decide (w.session≠s)
def x9 (l:List AWatch) (w:AWatch):Int:=if w∈l then (l.findIdx (fun x=>decide (x=w)):Nat) else -1
theorem Jh {l:List AWatch} {w:AWatch} {k:Nat} (hk:k<l.length) (h:l.getD k default=w) (hno:∀ j,j<k→l.getD j default≠w):x9 l w=k:=by
 have hg:∀ j,(hj:j<l.length)→l.getD j default=l[j]:=fun j hj=>by rw [List.getD_eq_getElem?_getD,List.getElem?_eq_getElem hj];rfl
 unfold x9
 rw [if_pos (by rw [←h,hg k hk];exact List.getElem_mem hk)]
 congr 1
 rw [List.findIdx_eq hk]
 refine ⟨by rw [decide_eq_true_eq,←hg k hk];exact h,fun j hj=>?_⟩
 rw [decide_eq_false_iff_not,←hg j (by omega)]
 exact hno j hj
theorem Jo {l:List AWatch} {w:AWatch} (hno:∀ j,j<l.length→l.getD j default≠w):x9 l w=-1∧¬ w∈l:=by
 have h:¬ w∈l:=fun hm=>by
  obtain ⟨j,hj,e⟩:=List.getElem_of_mem hm
  exact hno j hj (by rw [List.getD_eq_getElem?_getD,List.getElem?_eq_getElem hj];exact e)
 exact ⟨by unfold x9;rw [if_neg h],h⟩
theorem Ie (l:List AWatch) (w:AWatch):decide (0≤x9 l w)=decide (w∈l):=by
 unfold x9;split
 ·rw [decide_eq_true (by omega)];symm;rw [decide_eq_true_eq];assumption
 ·rw [decide_eq_false (by omega)];symm;rw [decide_eq_false_iff_not];assumption
theorem Hz (l:List AWatch) (w:AWatch) (h:l.length*32≤140737488351232):ab Tryz.prog [] 231 [.d (.sl 3 (l.map AWatch.row)),w.av] (ret (I (x9 l w))):=by
 refine zJ Tryz.func231 Tryz.ntmps231 Tryz.results231 ?_;simp only [go_sem]
 (refine zW qw zn trivial (z1 ?_)<;>(repeat with_reducible intro hc))
 refine AWP.loopB (ι:=Nat) (fun k=>k≤l.length∧∀ j,j<k→l.getD j default≠w) (fun k=>l.length-k) [0,3,7] (fun k=>[(8,I k)]) (fun k=>[.cells [I w.session,I w.kind,.d (.str w.path)]]) 0 ?_ ?_ ?_
 ·exact ⟨by omega,by omega⟩
 ·simp only [go_sem];exact zSm trivial
 intro k ⟨hk,hk2⟩
 simp only [go_sem]
 (refine zW qw zn @AWatch.rgetD (z3 ?_ ?_ ?_)<;>(repeat with_reducible intro hc))
 ·rw [Jh (by assumption) hc.symm hk2];exact zEe trivial
 ·refine ⟨k+1,⟨by omega,fun j hj=>?_⟩,by omega,?_⟩
  ·by_cases e:j=k
   ·subst e;exact fun h=>hc h.symm
   ·exact hk2 j (by omega)
  exact zSm trivial
 ·rw [(Jo (fun j hj=>hk2 j (by omega))).1];exact zEe trivial
theorem xE (l:List AWatch) (w:AWatch) (h:l.length*32≤140737488351232):ab Tryz.prog [] 179 [.d (.sl 3 (l.map AWatch.row)),w.av] (ret (B (decide (w∈l)))):=by
 refine zJ Tryz.func179 Tryz.ntmps179 Tryz.results179 ?_;simp only [go_sem]
 (refine zW qw (z1 (Hz l w h)) trivial (z1 ?_)<;>(repeat with_reducible intro hc))
 exact zEe @Ie
theorem qc (l:List AWatch) (s:Int) (k:Nat) (h:k<l.length):jR (l.take (k+1)) s=if (l.getD k default).session≠s then jR (l.take k) s++[l.getD k default] else jR (l.take k) s:=by
 have:l.take (k+1)=l.take k++[l.getD k default]:=cD l k h
 rw [this];unfold jR
 rw [List.filter_append]
 split
 ·rw [List.filter_cons_of_pos (by simpa using (by assumption:_≠_))];rfl
 ·rw [List.filter_cons_of_neg (by simpa using (by assumption:¬ _≠_)),List.filter_nil,List.append_nil]
theorem Di (s:Int):jR [] s=[]:=rfl
theorem Ky (l:List AWatch) (s:Int) (h:l.length*32≤140737488351232):ab Tryz.prog [] 186 [.d (.sl 3 (l.map AWatch.row)),I s] (ret (.d (.sl 3 ((jR l s).map AWatch.row)))):=by
 refine zJ Tryz.func186 Tryz.ntmps186 Tryz.results186 ?_;simp only [go_sem]
 (refine zW qw zn trivial (z1 ?_)<;>(repeat with_reducible intro hc))
 refine AWP.weaken (aM.nilOwn 5 3 rfl) ?_
 simp only [go_sem]
 refine AWP.loopB (ι:=Nat) (fun k=>k≤l.length) (fun k=>l.length-k) [1,8,9] (fun k=>[(10,I k),(5,.osl 0 3 0 (jR (l.take k) s).length)]) (fun k=>[.rows 3 ((jR (l.take k) s).map AWatch.row)]) 0 ?_ ?_ ?_
 ·omega
 ·simp only [go_sem,Di];exact zSm trivial
 intro k hk
 have hol:(jR (l.take k) s).length≤k:=Nat.le_trans (List.length_filter_le _ _) (List.length_take_le _ _)
 simp only [go_sem]
 (refine zW qw zn (zx @AWatch.rgetD (zx @eh @AWatch.rsnoc)) (z3 ?_ ?_ ?_)<;>(repeat with_reducible intro hc))
 ·refine ⟨k+1,by omega,by omega,?_⟩
  rw [qc _ _ _ (by assumption),if_pos hc]
  exact zFr [3] @List.length_append.{0}
 ·refine ⟨k+1,by omega,by omega,?_⟩
  rw [qc _ _ _ (by assumption),if_neg (by simpa using hc)]
  exact zFr [0] trivial
 ·have e:k=l.length:=by omega
  subst e
  simp only [List.take_length]
  exact zEe trivial
theorem Bt {l:List AWatch} {w:AWatch} (h:w.kind≠1∧w.kind≠2):jj l w=([],4):=by unfold jj;rw [if_pos h]
theorem Dj {l:List AWatch} {w:AWatch} (h1:¬ (w.kind≠1∧w.kind≠2)) (h2:bw w.path=false):jj l w=([],2):=by unfold jj;rw [if_neg h1,if_pos (by rw [h2];decide)]
theorem CD {l:List AWatch} {w:AWatch} (h1:¬ (w.kind≠1∧w.kind≠2)) (h2:bw w.path=true):jj l w=if w.session<1∨2147483647<w.session then ([],3) else if w∈l then (l,0) else if 400≤l.length then ([],6) else (l++[w],0):=by unfold jj;rw [if_neg h1,if_neg (by rw [h2];decide)]
theorem sD (l:List AWatch) (w:AWatch):l.map AWatch.row++[w.row]=(l++[w]).map AWatch.row:=by rw [List.map_append];rfl
theorem LR (l:List AWatch) (w:AWatch) (h:l.length*32≤140737488351232) (hw:okS w.path):ab Tryz.prog [] 111 [.d (.sl 3 (l.map AWatch.row)),w.av] (ret (.tup [.d (.sl 3 ((jj l w).1.map AWatch.row)),I (jj l w).2])):=by
 refine zJ Tryz.func111 Tryz.ntmps111 Tryz.results111 ?_;simp only [go_sem]
 (refine zW qw (z2 (good_c w.path hw) (xE l w h)) trivial (zc ?_ (zc ?_ (z4 ?_ ?_ ?_ ?_)))<;>(repeat with_reducible intro hc))
 ·rw [Bt hc];exact zEe trivial
 ·rw [Dj (by omega) hc];exact zEe trivial
 all_goals (have hk:¬ (w.kind≠1∧w.kind≠2):=by omega)
 all_goals rw [CD hk (by assumption)]
 ·rw [if_pos hc];exact zEe trivial
 all_goals rw [if_neg (by omega)]
 ·rw [if_pos hc];exact zEe trivial
 all_goals rw [if_neg (by assumption)]
 ·rw [if_pos (by omega)];exact zEe trivial
 ·rw [if_neg (by omega)];(refine zE2 (zx @AWatch.rsnoc @sD) ?_;(try simp (disch:=omega) only [go_sem,aa,AWatch.rsnoc,sD,I,B,S,zj]))
  exact Or.inl (List.take_of_length_le (by simp))
theorem nV {s:List UInt8} (h:bw s=true):s.length≤200:=by
 unfold bw at h
 rw [Bool.or_eq_true,decide_eq_true_eq,Bool.and_eq_true,decide_eq_true_eq] at h
 rcases h with h|h
 ·subst h;decide
 ·exact h.1
theorem xV {s:List UInt8} (h:a8 s=true):s.length≤40:=by
 unfold a8 at h
 rw [Bool.and_eq_true,Bool.and_eq_true,decide_eq_true_eq] at h
 have:=h.2.2;omega
def jf (dir name:List UInt8):List UInt8:=if dir=[47] then 47::name else dir++47::name
def er (dir name:List UInt8):List UInt8×Int:=if bw dir=true∧a8 name=true then (if 200<(jf dir name).length then ([],1) else (jf dir name,0)) else ([],2)
theorem od {dir name:List UInt8} (h:¬ (bw dir=true∧a8 name=true)):er dir name=([],2):=by unfold er;rw [if_neg h]
theorem p8 {dir name:List UInt8} (h1:bw dir=true) (h2:a8 name=true) (h:200<(jf dir name).length):er dir name=([],1):=by unfold er;rw [if_pos ⟨h1,h2⟩,if_pos h]
theorem wA {dir name:List UInt8} (h1:bw dir=true) (h2:a8 name=true) (h:(jf dir name).length≤200):er dir name=(jf dir name,0):=by unfold er;rw [if_pos ⟨h1,h2⟩,if_neg (by omega)]
theorem lY (name:List UInt8):jf [47] name=47::name:=by unfold jf;rw [if_pos rfl]
theorem rn {dir:List UInt8} (h:¬ dir=[47]) (name:List UInt8):jf dir name=dir++47::name:=by unfold jf;rw [if_neg h]
theorem Ev (dir name:List UInt8) (hd:okS dir) (hn:okS name):ab Tryz.prog [] 227 [S dir,S name] (ret (.tup [S (er dir name).1,I (er dir name).2])):=by
 have hn':=hn
 unfold okS at hn'
 by_cases h1:bw dir=true
 case neg=>
  rw [od (fun h=>h1 h.1)]
  refine zJ Tryz.func227 Tryz.ntmps227 Tryz.results227 ?_;simp only [go_sem]
  (refine zW qw (z1 ((good_c dir hd).re (congrArg B (eq_false_of_ne_true h1)))) trivial (z1 ?_)<;>(repeat with_reducible intro hc))
  exact zEe trivial
 by_cases h2:a8 name=true
 case neg=>
  rw [od (fun h=>h2 h.2)]
  refine zJ Tryz.func227 Tryz.ntmps227 Tryz.results227 ?_;simp only [go_sem]
  (refine zW qw (z2 ((good_c dir hd).re (by rw [h1])) ((ga name hn).re (congrArg B (eq_false_of_ne_true h2)))) trivial (z1 ?_)<;>(repeat with_reducible intro hc))
  exact zEe trivial
 have g1:=nV h1
 have g2:=xV h2
 refine zJ Tryz.func227 Tryz.ntmps227 Tryz.results227 ?_;simp only [go_sem]
 (refine zW qw (z2 ((good_c dir hd).re (by rw [h1])) ((ga name hn).re (by rw [h2]))) (zx @List.append_assoc.{0} (zx @List.cons_append.{0} (zx @List.nil_append.{0} @List.singleton_append.{0}))) (z3 ?_ ?_ ?_)<;>(repeat with_reducible intro hc))
 all_goals rcases Decidable.em (dir=[47]) with e|e
 all_goals first
  |(exfalso;simp_all;done)
  |(have hl:200<(jf dir name).length:=by (first|rw [e,lY,List.length_cons]|rw [rn e,List.length_append,List.length_cons])<;>(try simp [e] at hc)<;>omega
    rw [p8 h1 h2 hl];exact zEe trivial)
  |(have hl:(jf dir name).length≤200:=by (first|rw [e,lY,List.length_cons]|rw [rn e,List.length_append,List.length_cons])<;>(try simp [e] at hc)<;>omega
    rw [wA h1 h2 hl];(first|rw [e,lY]|rw [rn e]);exact zEe (zx @List.cons_append.{0} @List.nil_append.{0}))
theorem sE (j n:Nat):uF (j+1) n=dig (n/10^j)::uF j n:=by
 unfold uF
 rw [List.range_succ_eq_map,List.map_cons,List.map_map]
 congr 1
 refine List.map_congr_left fun i _=>?_
 show dig (n/10^(j+1-1-(i+1)))=dig (n/10^(j-1-i))
 rw [show j+1-1-(i+1)=j-1-i from by omega]
theorem vQ (k n:Nat):(uF k n).length=k:=by simp [uF]
theorem tH {j n:Nat} (h:n/10^j=0):∀ m,uF (j+m) n=List.replicate m 48++uF j n
 |0=>rfl
 | m+1=>by
   have e:n/10^(j+m)=0:=by rw [Nat.pow_add,←Nat.div_div_eq_div_mul,h,Nat.zero_div]
   rw [←Nat.add_assoc,sE,tH h m,e,List.replicate_succ];rfl
def rf (name:List UInt8) (n:Nat):List UInt8:=name++uF 10 n
def eY (name:List UInt8) (n:Int):List UInt8×Int:=if n<0∨2147483647<n then ([],3) else if a8 (rf name n.toNat)=true then (rf name n.toNat,0) else ([],2)
def serB (name:List UInt8) (n j:Nat):List UInt8:=name++(List.replicate (10-j) 48++uF j n)
theorem ra (name:List UInt8) (n j:Nat) (h:j≤10):(serB name n j).length=name.length+10:=by
 unfold serB;rw [List.length_append,List.length_append,List.length_replicate,vQ];omega
theorem Em (name:List UInt8) (n j:Nat) (h:j<10):(serB name n j).set (name.length+9-j) (dig (n/10^j))=serB name n (j+1):=by
 unfold serB
 rw [show 10-j=(10-(j+1))+1 from by omega,List.replicate_succ',sE,List.append_assoc,List.set_append_right _ _ (by omega),List.set_append_right _ _ (by simp;omega)]
 rw [List.length_replicate,show name.length+9-j-name.length-(10-(j+1))=0 from by omega];rfl
theorem FO (name:List UInt8) (n j:Nat) (h:n/10^j=0) (hj:j≤10):serB name n j=rf name n:=by
 unfold serB rf
 rw [←tH h,show j+(10-j)=10 from by omega]
theorem FG {name:List UInt8} {n:Int} (h:n<0∨2147483647<n):eY name n=([],3):=by unfold eY;rw [if_pos h]
theorem II {name:List UInt8} {n:Nat} (h:n≤2147483647) (h2:a8 (rf name n)=true):eY name n=(rf name n,0):=by unfold eY;rw [if_neg (by omega)];exact if_pos h2
theorem I2 {name:List UInt8} {n:Nat} (h:n≤2147483647) (h2:¬ a8 (rf name n)=true):eY name n=([],2):=by unfold eY;rw [if_neg (by omega)];exact if_neg h2
theorem tg (name:List UInt8) (n:Nat):name++[48,48,48,48,48,48,48,48,48,48]=serB name n 0:=rfl
theorem Dk {l:List UInt8} {n:Nat} (h:l.length=n):List.take n (l.map aC)=l.map aC:=List.take_of_length_le (by rw [List.length_map];omega)
theorem qH (name:List UInt8) (n:Int) (hn:name.length≤1048576) (hi:okI n):ab Tryz.prog [] 226 [S name,I n] (ret (.tup [S (eY name n).1,I (eY name n).2])):=by
 unfold okI at hi
 by_cases hb:n<0∨2147483647<n
 ·rw [FG hb]
  refine zJ Tryz.func226 Tryz.ntmps226 Tryz.results226 ?_;simp only [go_sem]
  (refine zW qw zn trivial (z1 ?_)<;>(repeat with_reducible intro hc))
  all_goals first|omega|skip
  all_goals exact zEe trivial
 obtain ⟨m,rfl⟩:=Int.eq_ofNat_of_zero_le (a:=n) (by omega)
 have hm:m≤2147483647:=by omega
 refine zJ Tryz.func226 Tryz.ntmps226 Tryz.results226 ?_;simp only [go_sem]
 (refine zW qw zn (zx @tg (zx @ra @Nat.zero_le)) (z1 ?_)<;>(repeat with_reducible intro hc))
 have hlz:=ra name m 0 (by omega)
 refine AWP.loopB (ι:=Nat) (fun j=>j≤10) (fun j=>10-j) [6] (fun j=>[(1,I ((m/10^j:Nat):Int)),(7,I ((name.length:Int)+9-j))]) (fun j=>[.bytes (serB name m j)]) 0 ?_ ?_ ?_
 ·omega
 ·simp only [go_sem];(refine aM.same ?_;simp (disch:=omega) only [go_sem,aa,Int.natCast_add,tg,Nat.pow_zero,Nat.div_one]);congr 2;omega
 intro j hj
 have hl:=ra name m j hj
 have hq:m/10^j≤2147483647:=Nat.le_trans (Nat.div_le_self _ _) hm
 simp only [go_sem]
 by_cases h0:m/10^j=0
 ·have he:=FO name m j h0 hj
  rw [he] at hl
  have hk:=Dk hl
  rw [he,h0]
  have hq:okS (rf name m):=by unfold okS;omega
  (refine zW qw (z1 (ga (rf name m) hq)) @hk (z2 ?_ ?_)<;>(repeat with_reducible intro hc))
  ·rw [I2 hm (by rw [hc];decide)];exact zEe @hk
  ·rw [II hm hc];exact zEe @hk
 have hj10:j<10:=by
  refine Nat.lt_of_le_of_ne hj fun e=>h0 ?_
  subst e;exact Nat.div_eq_of_lt (by omega)
 have hd:=(dig (m/10^j)).toNat_lt
 (repeat' first
|(with_reducible refine AR.f ?_)
|refine ap (by decide) ?_
|(with_reducible refine AWP.cond rfl ?_ ?_<;>intro hc<;>(try simp only [hcs,beq_iff_eq,ge_iff_le,gt_iff_lt] at hc))
|((first|((first|(with_reducible first|refine zR ?_|refine zQ (by decide +kernel) ?_|refine zD (by decide +kernel) ?_|refine zE (by decide +kernel) ?_|refine zG (by decide +kernel) ?_));intro K hK)|((first|(with_reducible refine aunder_i ?_ ?_<;>intro hg)|with_reducible intro hg)<;>(first|(exfalso;simp at hg;done)|(have hg':=hg;(try simp only [hcs,beq_iff_eq,ge_iff_le,gt_iff_lt] at hg');(try simp only [hg])))))<;>(try simp (disch:=omega) only [go_sem,aa,KB,KP,Ez,BN,UInt8.ofNat_toNat])<;>(repeat' with_reducible refine And.intro ?_ ?_)<;>(try (with_reducible refine hK _ ?_;clear hK K)))
|omega)
 all_goals first|omega|skip
 ·refine ⟨j+1,by omega,by omega,?_⟩
  rw [show ((name.length:Int)+9-j).toNat=name.length+9-j from by omega,Em name m j hj10,Nat.pow_succ,←Nat.div_div_eq_div_mul]
  (refine aM.same ?_;simp (disch:=omega) only [go_sem,aa,Int.natCast_add])
  congr 2;omega
 all_goals exact absurd (Nat.le_zero.1 (Int.ofNat_le.1 hc)) h0
theorem qWe1:Pls [Plan.takes [0,1,2,4] (.fork 3 (Plan.takes [5,6,7] .done) 5 (Plan.takes [3,6,7] .done))]:=pls _
def byteAt (k:Nat) (v:Int):UInt8:=UInt8.ofNat ((v/2^(8*k))%256).toNat
def beB:Nat→Int→List UInt8
 |0,_=>[]
 |n+1,v=>byteAt n v::beB n v
theorem beB_len (v:Int):∀ n,(beB n v).length=n
 |0=>rfl
 |n+1=>by rw [beB,List.length_cons,beB_len v n]
theorem qZ (v:Int):∀ (n j:Nat),j<n→(beB n v).take (n-j)=(beB n v).take (n-(j+1))++[byteAt j v]
 |0,j,h=>by omega
 | n + 1,j,h=>by
   by_cases e:j=n
   ·subst e
    rw [show j+1-j=1 from by omega,Nat.sub_self];rfl
   ·rw [beB,show n+1-j=(n-j)+1 from by omega,show n+1-(j+1)=(n-(j+1))+1 from by omega,List.take_succ_cons,List.take_succ_cons,qZ v n j (by omega)];rfl
theorem Jp (x:Int):IntKind.u8.wrap x=((UInt8.ofNat (x%256).toNat).toNat:Int):=by
 rw [UInt8.toNat_ofNat']
 simp [IntKind.wrap,IntKind.bits,IntKind.signed];omega
theorem u5 (j:Nat) (v:Int):IntKind.u8.wrap (v/2^(8*j))=((byteAt j v).toNat:Int):=Jp _
theorem CM (l:List UInt8) (v:Int) (n:Nat) (hn:n≤8) (hl:l.length≤1048576):ab Tryz.prog [.rows 1 (l.map aC)] 257 [.osl 0 1 0 l.length,I v,I n] (cY (.osl 1 1 0 (l.length+n)) [.dead,.rows 1 ((l++beB n v).map aC)]):=by
 refine zJ Tryz.func257 Tryz.ntmps257 Tryz.results257 ?_;simp only [go_sem]
 refine AWP.weaken (aM.moveOwn 0 rfl rfl (by simp)) ?_
 simp only [go_sem]
 (refine zW qw zn trivial (z1 ?_)<;>(repeat with_reducible intro hc))
 refine AWP.loopB (ι:=Nat) (fun j=>j≤n) (fun j=>j) [1] (fun j=>[(0,.osl 1 1 0 (l.length+(n-j))),(7,I ((j:Int)-1))]) (fun j=>[.dead,.rows 1 ((l++(beB n v).take (n-j)).map aC)]) n ?_ ?_ ?_
 ·omega
 ·simp only [go_sem,Nat.sub_self,List.take_zero,List.append_nil,Nat.add_zero];exact zSm trivial
 intro j hj
 rcases j with _|j
 ·simp only [go_sem]
  (refine zW qw zn trivial (z1 ?_)<;>(repeat with_reducible intro hc))
  rw [Nat.sub_zero,List.take_of_length_le (by rw [beB_len];omega)]
  (refine zO ?_ ?_;(focus ((try simp (disch:=omega) only [go_sem,aa])<;>fail));simp (disch:=omega) only [go_sem,aa];refine ag.of_simp ?_ (ag.same ⟨rfl,rfl⟩);refine zV [0,1] rfl rfl rfl rfl ?_ ?_<;>simp (disch:=omega) only [go_sem,aa,true_or,or_true])
 rw [show ((j+1:Nat):Int)-1=j from by omega]
 simp only [go_sem]
 have hw:IntKind.u64.wrap (8*(j:Int))=8*j:=by simp [IntKind.wrap,IntKind.bits,IntKind.signed];omega
 have hw2:(8*(j:Int)).toNat=8*j:=by omega
 have hle:(l++(beB n v).take (n-(j+1))).length=l.length+(n-(j+1)):=by rw [List.length_append,List.length_take,beB_len];omega
 have hk:List.take (l.length+(n-(j+1))) ((l++(beB n v).take (n-(j+1))).map aC)=(l++(beB n v).take (n-(j+1))).map aC:=List.take_of_length_le (by rw [List.length_map];omega)
 (refine zW qw zn (zx @hw (zx @hw2 @hk)) (z2 ?_ ?_)<;>(repeat with_reducible intro hc))
 ·simp [beB_len]
 refine ⟨j,by omega,by omega,?_⟩
 rw [qZ v n j (by omega),←List.append_assoc,List.map_append (l₁:=l++_),show n-j=n-(j+1)+1 from by omega]
 exact zFr [0,3] (zx @hw (zx @hw2 (zx @hk (zx @u5 (zx @List.map_cons.{0,0} (zx @List.map_nil.{0,0} (zx @aC.eq_1 @Nat.add_assoc)))))))
theorem sV (v:Int) (n:Nat) (hn:n≤8):ab Tryz.prog [] 257 [.d (.sc (.slice none 0 0)),I v,I n] (cY (.osl 0 1 0 n) [.rows 1 ((beB n v).map aC)]):=by
 refine zJ Tryz.func257 Tryz.ntmps257 Tryz.results257 ?_;simp only [go_sem]
 refine AWP.weaken (aM.nilOwn 0 1 rfl) ?_
 simp only [go_sem]
 (refine zW qw zn trivial (z1 ?_)<;>(repeat with_reducible intro hc))
 refine AWP.loopB (ι:=Nat) (fun j=>j≤n) (fun j=>j) [1] (fun j=>[(0,.osl 0 1 0 (n-j)),(7,I ((j:Int)-1))]) (fun j=>[.rows 1 (((beB n v).take (n-j)).map aC)]) n ?_ ?_ ?_
 ·omega
 ·simp only [go_sem,Nat.sub_self,List.take_zero,List.map_nil];exact zSm trivial
 intro j hj
 rcases j with _|j
 ·simp only [go_sem]
  (refine zW qw zn trivial (z1 ?_)<;>(repeat with_reducible intro hc))
  rw [Nat.sub_zero,List.take_of_length_le (by rw [beB_len];omega)]
  (refine zO ?_ ?_;(focus ((try simp (disch:=omega) only [go_sem,aa])<;>fail));simp (disch:=omega) only [go_sem,aa];refine ag.of_simp ?_ (ag.same ⟨rfl,rfl⟩);refine zV [0] rfl rfl rfl rfl ?_ ?_<;>simp (disch:=omega) only [go_sem,aa,true_or,or_true])
 rw [show ((j+1:Nat):Int)-1=j from by omega]
 simp only [go_sem]
 have hw:IntKind.u64.wrap (8*(j:Int))=8*j:=by simp [IntKind.wrap,IntKind.bits,IntKind.signed];omega
 have hw2:(8*(j:Int)).toNat=8*j:=by omega
 have hk:List.take (n-(j+1)) (((beB n v).take (n-(j+1))).map aC)=((beB n v).take (n-(j+1))).map aC:=List.take_of_length_le (by rw [List.length_map,List.length_take];omega)
 (refine zW qw zn (zx @hw (zx @hw2 @hk)) (z2 ?_ ?_)<;>(repeat with_reducible intro hc))
 ·simp [beB_len]
 refine ⟨j,by omega,by omega,?_⟩
 rw [qZ v n j (by omega),List.map_append,show n-j=n-(j+1)+1 from by omega]
 exact zFr [2] (zx @hw (zx @hw2 (zx @hk (zx @u5 (zx @List.map_cons.{0,0} (zx @List.map_nil.{0,0} (zx @aC.eq_1 @Nat.add_assoc)))))))
theorem put_own_at (l:List UInt8) (v:Int) (n m k:Nat) (ni:Int) (hn:n≤8) (hl:l.length≤1048576) (hm:l.length=m) (hk:m+n=k) (hi:ni=n):ab Tryz.prog [.rows 1 (l.map aC)] 257 [.osl 0 1 0 m,I v,I ni] (cY (.osl 1 1 0 k) [.dead,.rows 1 ((l++beB n v).map aC)]):=by
 subst hm;subst hk;subst hi;exact CM l v n hn hl
theorem AS (v:Int):IntKind.u8.wrap v=((byteAt 0 v).toNat:Int):=by rw [←u5 0 v];simp
def b5 (t:ATxn):List UInt8:=(beB 8 t.zxid++[byteAt 0 t.op])++beB 4 t.session
def b6 (t:ATxn):List UInt8:=(b5 t++beB 4 t.version)++beB 4 t.owner
def b7 (t:ATxn):List UInt8:=(b6 t++[byteAt 0 t.path.length])++t.path
def bu (t:ATxn):List UInt8:=(b7 t++beB 2 t.data.length)++t.data
theorem mu (t:ATxn):(b5 t).length=13:=by simp [b5,beB_len]
theorem oE (t:ATxn):(b6 t).length=21:=by simp [b6,mu,beB_len]
theorem b7_len (t:ATxn):(b7 t).length=22+t.path.length:=by simp [b7,oE];omega
theorem en (t:ATxn):(bu t).length=24+t.path.length+t.data.length:=by simp [bu,b7_len,beB_len];omega
def dF (t:ATxn):List UInt8:=([84]++beB 2 (bu t).length)++bu t
theorem iJ (t:ATxn):(dF t).length=27+t.path.length+t.data.length:=by unfold dF;simp only [List.length_append,en,beB_len,List.length_cons,List.length_nil];omega
def oA (t:ATxn):List UInt8:=dF t++beB 4 (mR (dF t))
theorem ij {t:ATxn} (h:aN t=0):t.path.length≤200∧t.data.length≤256:=by
 unfold aN at h
 split at h
 ·cases h
 split at h
 ·cases h
 split at h
 ·cases h
 split at h
 ·cases h
 rename_i h1 h2 h3 h4
 refine ⟨?_,by omega⟩
 unfold wo at h4
 by_cases e2:t.op≤2
 ·rw [if_pos e2] at h4;simp at h4;rw [h4.1];simp
 rw [if_neg e2] at h4
 have:bw t.path=true:=by
  split at h4<;>(try split at h4)<;>simp at h4<;>exact h4.1
 exact nV this
def cH (t:ATxn):List UInt8×Int:=if aN t=0 then (oA t,0) else ([],aN t)
set_option maxHeartbeats 2000000 in
theorem qU (t:ATxn) (hp:okS t.path) (hd:okS t.data):ab Tryz.prog [] 228 [t.av] (ret (.tup [S (cH t).1,I (cH t).2])):=by
 refine zJ Tryz.func228 Tryz.ntmps228 Tryz.results228 ?_;simp only [go_sem]
 by_cases g:aN t=0
 case neg=>
  unfold cH
  rw [if_neg g]
  (refine zW qw (z1 (pM t hp hd)) trivial (z1 ?_)<;>(repeat with_reducible intro hc))
  all_goals first|omega|skip
  all_goals exact zEe trivial
 unfold cH
 rw [if_pos g]
 (refine zW qw (z2 ((pM t hp hd).re (congrArg I g)) (sV t.zxid 8 (by decide))) trivial (z1 ?_)<;>(repeat with_reducible intro hc))
 obtain ⟨s1,s2⟩:=ij g
 have l8:=beB_len t.zxid 8
 have hh:okS (dF t):=by unfold okS dF;simp only [List.length_append,en,beB_len,List.length_cons,List.length_nil];omega
 have tk24:List.take (24+t.path.length) (List.map aC (b7 t++beB 2 (t.data.length:Int)))=List.map aC (b7 t++beB 2 (t.data.length:Int)):=List.take_of_length_le (by rw [List.length_map,List.length_append,b7_len,beB_len];omega)
 have hbr:List.map aC (bu t)=List.map aC (b7 t++beB 2 (t.data.length:Int))++List.map aC t.data:=by unfold bu;rw [List.map_append]
 have h84:(((84:UInt8).toNat:Nat):Int)=84:=rfl
 have tk22:List.take 22 (List.map aC (b6 t)++[[DV.int IntKind.u8 ((byteAt 0 (t.path.length:Int)).toNat:Int)]])=List.map aC (b6 t)++[[DV.int IntKind.u8 ((byteAt 0 (t.path.length:Int)).toNat:Int)]]:=List.take_of_length_le (by simp [oE])
 have tk (l:List UInt8) (n:Nat) (h:l.length=n):List.take n (l.map aC)=l.map aC:=List.take_of_length_le (by rw [List.length_map];omega)
 refine AWP.meetB [1] [(5,.osl 1 1 0 13)] [.cells [I t.zxid,I t.op,I t.session,S t.path,S t.data,I t.version,I t.owner],.rows 1 ((b5 t).map aC)] ?_ ?_
 ·(repeat' first
|(with_reducible refine AR.f ?_)
|refine ap (by decide) ?_
|(with_reducible refine AWP.cond rfl ?_ ?_<;>intro hc<;>(try simp only [hcs,beq_iff_eq,ge_iff_le,gt_iff_lt] at hc))
|((first|((first|refine zP ((Plan.takes [0,1,2,6] (.fork 3 (.fork 4 (.fork 5 (Plan.takes [7,8,9] .done) 7 (Plan.takes [5,8,9] .done)) 7 (Plan.takes [4,5,8,9] .done)) 7 (Plan.takes [3,4,5,8,9] .done)))) (by decide +kernel) ?_|(with_reducible first|refine zR ?_|refine zQ (by decide +kernel) ?_|refine zD (by decide +kernel) ?_|refine zE (by decide +kernel) ?_|refine zG (by decide +kernel) ?_));intro K hK)|(refine acallH_own (put_own_at (beB 8 t.zxid++[byteAt 0 t.op]) t.session 4 9 13 4 (by decide) (by simp [beB_len]) (by simp [beB_len]) rfl rfl) ?_ ?_ ?_;(focus ((try simp (disch:=omega) only [inj,List.cons.injEq,and_self,List.nodup_cons,List.not_mem_nil,List.mem_cons,not_false_eq_true,List.nodup_nil,go_sem,aa,tk _ _ l8,List.map_append,List.map_cons,List.map_nil,AS,aC])<;>(try omega)<;>fail));(focus ((try simp (disch:=omega) only [inj,List.cons.injEq,and_self,List.nodup_cons,List.not_mem_nil,List.mem_cons,not_false_eq_true,List.nodup_nil,go_sem,aa,tk _ _ l8,List.map_append,List.map_cons,List.map_nil,AS,aC])<;>(try omega)<;>(try decide)<;>fail)))|((first|(with_reducible refine aunder_i ?_ ?_<;>intro hg)|with_reducible intro hg)<;>(first|(exfalso;simp at hg;done)|(have hg':=hg;(try simp only [hcs,beq_iff_eq,ge_iff_le,gt_iff_lt] at hg');(try simp only [hg])))))<;>(try simp (disch:=omega) only [go_sem,aa,tk _ _ l8,List.map_append,List.map_cons,List.map_nil,AS,aC])<;>(repeat' with_reducible refine And.intro ?_ ?_)<;>(try (with_reducible refine hK _ ?_;clear hK K)))
|omega)
  all_goals exact zFr [0,4] (zx @b5.eq_1 (zx @List.map_append.{0,0} (zx @List.map_cons.{0,0} (zx @List.map_nil.{0,0} @aC.eq_1))))
 simp only [go_sem]
 refine AWP.seq (AWP.meetB [1] [(5,.osl 1 1 0 21)] [.cells [I t.zxid,I t.op,I t.session,S t.path,S t.data,I t.version,I t.owner],.rows 1 ((b6 t).map aC)] ?_ ?_)
 ·(refine zW qw (z3 qWe1 (ow (put_own_at (b5 t) t.version 4 13 17 4 (by decide) (by simp [mu]) (mu t) rfl rfl)) (ow (put_own_at (b5 t++beB 4 t.version) t.owner 4 17 21 4 (by decide) (by simp [mu,beB_len]) (by simp [mu,beB_len]) rfl rfl))) trivial (z2 ?_ ?_)<;>(repeat with_reducible intro hc))
  all_goals exact zFr [0,3] @b6.eq_1
 simp only [go_sem]
 refine AWP.seq (AWP.meetB [1] [(5,.osl 1 1 0 (22+t.path.length))] [.cells [I t.zxid,I t.op,I t.session,S t.path,S t.data,I t.version,I t.owner],.rows 1 ((b7 t).map aC)] ?_ ?_)
 ·(repeat' first
|(with_reducible refine AR.f ?_)
|refine ap (by decide) ?_
|(with_reducible refine AWP.cond rfl ?_ ?_<;>intro hc<;>(try simp only [hcs,beq_iff_eq,ge_iff_le,gt_iff_lt] at hc))
|((first|((first|refine zP ((Plan.takes [0,1,2,3,7] (.fork 4 (.fork 5 (.fork 6 (Plan.takes [8,9,10] .done) 8 (Plan.takes [6,9,10] .done)) 8 (Plan.takes [5,6,9,10] .done)) 8 (Plan.takes [4,5,6,9,10] .done)))) (by decide +kernel) ?_|(with_reducible first|refine zR ?_|refine zQ (by decide +kernel) ?_|refine zD (by decide +kernel) ?_|refine zE (by decide +kernel) ?_|refine zG (by decide +kernel) ?_));intro K hK)|((first|(with_reducible refine aunder_i ?_ ?_<;>intro hg)|with_reducible intro hg)<;>(first|(exfalso;simp at hg;done)|(have hg':=hg;(try simp only [hcs,beq_iff_eq,ge_iff_le,gt_iff_lt] at hg');(try simp only [hg])))))<;>(try simp (disch:=omega) only [go_sem,aa,tk _ _ (oE t),AS])<;>(repeat' with_reducible refine And.intro ?_ ?_)<;>(try (with_reducible refine hK _ ?_;clear hK K)))
|omega)
  all_goals first|exact Nat.le_of_eq (oE t).symm|omega|skip
  all_goals exact zFr [0,4] (zx @b7.eq_1 (zx @tk22 (zx @List.map_append.{0,0} (zx @List.map_cons.{0,0} (zx @List.map_nil.{0,0} @aC.eq_1)))))
 simp only [go_sem]
 refine AWP.seq (AWP.meetB [1] [(5,.osl 1 1 0 (bu t).length)] [.cells [I t.zxid,I t.op,I t.session,S t.path,S t.data,I t.version,I t.owner],.rows 1 ((bu t).map aC)] ?_ ?_)
 ·(repeat' first
|(with_reducible refine AR.f ?_)
|refine ap (by decide) ?_
|(with_reducible refine AWP.cond rfl ?_ ?_<;>intro hc<;>(try simp only [hcs,beq_iff_eq,ge_iff_le,gt_iff_lt] at hc))
|((first|((first|refine zP ((Plan.takes [0,1,2,3,5] (.fork 4 (Plan.takes [6,7,8] .done) 6 (Plan.takes [4,7,8] .done)))) (by decide +kernel) ?_|(with_reducible first|refine zR ?_|refine zQ (by decide +kernel) ?_|refine zD (by decide +kernel) ?_|refine zE (by decide +kernel) ?_|refine zG (by decide +kernel) ?_));intro K hK)|(refine acallH_own (put_own_at (b7 t) t.data.length 2 (22+t.path.length) (24+t.path.length) 2 (by decide) (by rw [b7_len];omega) (b7_len t) (by omega) rfl) ?_ ?_ ?_;(focus ((try simp (disch:=omega) only [inj,List.cons.injEq,and_self,List.nodup_cons,List.not_mem_nil,List.mem_cons,not_false_eq_true,List.nodup_nil,go_sem,aa,en])<;>(try omega)<;>fail));(focus ((try simp (disch:=omega) only [inj,List.cons.injEq,and_self,List.nodup_cons,List.not_mem_nil,List.mem_cons,not_false_eq_true,List.nodup_nil,go_sem,aa,en])<;>(try omega)<;>(try decide)<;>fail)))|((first|(with_reducible refine aunder_i ?_ ?_<;>intro hg)|with_reducible intro hg)<;>(first|(exfalso;simp at hg;done)|(have hg':=hg;(try simp only [hcs,beq_iff_eq,ge_iff_le,gt_iff_lt] at hg');(try simp only [hg])))))<;>(try simp (disch:=omega) only [go_sem,aa,en])<;>(repeat' with_reducible refine And.intro ?_ ?_)<;>(try (with_reducible refine hK _ ?_;clear hK K)))
|omega)
  all_goals first|exact Nat.le_of_eq (by rw [b7_len,beB_len];omega)|skip
  all_goals exact zFr [0,3] (zx @en (zx @hbr @tk24))
 simp only [go_sem]
 have hB:=en t
 have tk2:List.take 2 (List.map aC (beB 2 ((bu t).length:Int)))=List.map aC (beB 2 ((bu t).length:Int)):=List.take_of_length_le (by rw [List.length_map,beB_len];decide)
 have hH:[DV.int IntKind.u8 84]::(List.map aC (beB 2 ((bu t).length:Int))++List.map aC (bu t))=List.map aC (dF t):=by unfold dF;rw [List.map_append,List.map_append];rfl
 have tkH:List.take (3+(bu t).length) (List.map aC (dF t))=List.map aC (dF t):=List.take_of_length_le (by rw [List.length_map,dF,List.length_append,List.length_append,beB_len];simp)
 have tk4 (v:Int):List.take 4 (List.map aC (beB 4 v))=List.map aC (beB 4 v):=List.take_of_length_le (by rw [List.length_map,beB_len];decide)
 (refine zW qw (z3 (ow (put_own_at [84] (bu t).length 2 1 3 2 (by decide) (by decide) rfl rfl rfl)) (JO (dF t) hh) (sV (mR (dF t)) 4 (by decide))) (zx @List.map_cons.{0,0} (zx @List.map_nil.{0,0} (zx @h84 (zx @tk2 (zx @hH (zx @tkH @tk4)))))) (zc ?_ (z4 ?_ ?_ ?_ ?_))<;>(repeat with_reducible intro hc))
 ·exact Nat.le_of_eq (beB_len _ _).symm
 ·exact Nat.le_of_eq (by rw [iJ];omega)
 ·exact Nat.le_of_eq (beB_len _ _).symm
 ·rw [iJ,beB_len];omega
 ·exact zEe @oA.eq_1
def az (l:List ATxn):Int:=if l=[] then 0 else (l.getD (l.length-1) default).zxid
theorem gu:az []=0:=rfl
theorem dK {l:List ATxn} (h:0<l.length):az l=(l.getD (l.length-1) default).zxid:=by
 unfold az;rw [if_neg (fun e=>by rw [e] at h;exact absurd h (by decide))]
theorem fw (l:List ATxn) (t:ATxn):az (l++[t])=t.zxid:=by
 rw [dK (by simp)];simp
theorem last_c (l:List ATxn) (h:l.length*72≤140737488351232):ab Tryz.prog [] 117 [.d (.sl 7 (l.map ATxn.row))] (ret (I (az l))):=by
 refine zJ Tryz.func117 Tryz.ntmps117 Tryz.results117 ?_;simp only [go_sem]
 (refine zW qw zn @ATxn.rgetD (z2 ?_ ?_)<;>(repeat with_reducible intro hc))
 ·have e:l=[]:=List.eq_nil_of_length_eq_zero (by omega)
  rw [e,gu];exact zEe trivial
 all_goals first|omega|skip
 rw [dK (by omega)]
 have e:(((l.length:Int)-1).toNat)=l.length-1:=by omega
 (refine zE2 (zx @ATxn.rgetD @e) ?_;(try simp (disch:=omega) only [go_sem,aa,ATxn.rgetD,e,I,B,S,zj]))
 all_goals trace_state
def fk (s:List UInt8):Nat→Nat→List ATxn→List ATxn×Nat
 |0,at_,l=>(l,at_)
 |f+1,at_,l=>if (cq (s.drop at_)).2.2≠0∨(0<l.length∧(cq (s.drop at_)).1.zxid≤az l) then (l,at_) else fk s f (at_+(cq (s.drop at_)).2.1.toNat) (l++[(cq (s.drop at_)).1])
def scanT (s:List UInt8):List ATxn×Nat:=fk s (s.length+1) 0 []
theorem mD (s:List UInt8):((cq s).2.2≠0∧(cq s).2.1=0)∨((cq s).2.2=0∧(cq s).2.1=((sN s+7:Nat):Int)∧sN s+7≤s.length∧sN s≤1024∧aN (cq s).1=0):=by
 by_cases h1:dA s
 ·rw [qJ h1];left;simp
 by_cases h2:dV s
 ·rw [vq h1 h2];left;simp
 by_cases h3:gO s
 ·rw [yL h1 h2 h3];left;simp
 by_cases h4:eu (sB s)
 case neg=>rw [Aq h1 h2 h3 h4];left;simp
 by_cases h5:aN (eS (sB s))=0
 ·rw [vu h1 h2 h3 h4 h5];right
  unfold dV at h2
  exact ⟨rfl,rfl,by omega,by omega,h5⟩
 ·rw [yT h1 h2 h3 h4 h5];left;exact ⟨h5,rfl⟩
theorem gG {s:List UInt8} {f at_:Nat} {l:List ATxn} (h:(cq (s.drop at_)).2.2≠0∨(0<l.length∧(cq (s.drop at_)).1.zxid≤az l)):fk s f at_ l=(l,at_):=by
 cases f with
 |zero=>rfl
 |succ f=>rw [fk,if_pos h]
theorem Bq {s:List UInt8} {f at_:Nat} {l:List ATxn} (h:s.length≤at_):fk s f at_ l=(l,at_):=
 gG (.inl (by rw [qJ (.inl (by rw [List.length_drop];omega))];decide))
theorem jI {s:List UInt8} {f at_ n:Nat} {l:List ATxn} (h1:(cq (s.drop at_)).2.2=0) (h2:¬ (0<l.length∧(cq (s.drop at_)).1.zxid≤az l)) (hn:(cq (s.drop at_)).2.1=(n:Int)):fk s (f+1) at_ l=fk s f (at_+n) (l++[(cq (s.drop at_)).1]):=by
 rw [fk,if_neg (by rintro (h|h);exact h h1;exact h2 h),hn];rfl
theorem Ko (s:List UInt8) (hs:s.length≤1048576):ab Tryz.prog [] 84 [S s] (ret (.tup [.d (.sl 7 ((scanT s).1.map ATxn.row)),I (scanT s).2])):=by
 refine zJ Tryz.func84 Tryz.ntmps84 Tryz.results84 ?_;simp only [go_sem]
 (refine zW qw zn trivial (z1 ?_)<;>(repeat with_reducible intro hc))
 refine AWP.weaken (aM.nilOwn 4 7 rfl) ?_
 simp only [go_sem]
 refine AWP.loopB (ι:=Nat×Nat×List ATxn) (fun v=>v.2.1≤s.length∧s.length<v.2.1+v.1∧v.2.2.length≤v.2.1∧fk s v.1 v.2.1 v.2.2=scanT s) (fun v=>v.1) [0] (fun v=>[(5,I v.2.1),(4,.osl 0 7 0 v.2.2.length)]) (fun v=>[.rows 7 (v.2.2.map ATxn.row)]) (s.length+1,0,[]) ?_ ?_ ?_
 ·exact ⟨by simp,by simp,by simp,rfl⟩
 ·simp only [go_sem];exact zSm trivial
 intro ⟨f,k,l⟩ ⟨h1,h2,h3,h4⟩
 simp only at h1 h2 h3 h4
 simp only [go_sem]
 have ed:List.take (s.length-k) (List.drop k s)=List.drop k s:=List.take_of_length_le (by rw [List.length_drop];omega)
 (repeat' first
|(with_reducible refine AR.f ?_)
|refine ap (by decide) ?_
|(with_reducible refine AWP.cond rfl ?_ ?_<;>intro hc<;>(try simp only [hcs,beq_iff_eq,ge_iff_le,gt_iff_lt] at hc))
|((first|((first|(with_reducible first|refine zR ?_|refine zQ (by decide +kernel) ?_|refine zD (by decide +kernel) ?_|refine zE (by decide +kernel) ?_|refine zG (by decide +kernel) ?_));intro K hK)|((first|refine zA (decode_c (s.drop k) (by rw [List.length_drop];omega)) ?_ ?_ ?_ ?_ ?_|refine zA (last_c l (by omega)) ?_ ?_ ?_ ?_ ?_);(focus exact rfl);(focus exact rfl);iterate 2 (focus ((try simp (disch:=omega) only [go_sem,aa,ed,eh,ATxn.rsnoc])<;>(try omega)<;>fail)))|((first|refine zN (decode_c (s.drop k) (by rw [List.length_drop];omega)) rfl ?_ ?_|refine zX (decode_c (s.drop k) (by rw [List.length_drop];omega)) rfl ?_ ?_|refine zY (decode_c (s.drop k) (by rw [List.length_drop];omega)) ?_ ?_|refine zX (last_c l (by omega)) rfl ?_ ?_);(focus ((try simp (disch:=omega) only [go_sem,aa,ed,eh,ATxn.rsnoc])<;>(try omega)<;>fail)))|((first|(with_reducible refine aunder_i ?_ ?_<;>intro hg)|with_reducible intro hg)<;>(first|(exfalso;simp at hg;done)|(have hg':=hg;(try simp only [hcs,beq_iff_eq,ge_iff_le,gt_iff_lt] at hg');(try simp only [hg])))))<;>(try simp (disch:=omega) only [go_sem,aa,ed,eh,ATxn.rsnoc])<;>(repeat' with_reducible refine And.intro ?_ ?_)<;>(try (with_reducible refine hK _ ?_;clear hK K)))
|omega)
 ·rw [←h4,gG (hc.imp id fun h=>⟨by omega,h.2⟩)];exact zEe trivial
 ·rcases mD (s.drop k) with ⟨q,_⟩|⟨q1,q2,q3,q4,_⟩
  ·exact absurd hc.1 q
  rw [List.length_drop] at q3
  have q5:=jI (s:=s) (f:=f-1) (at_:=k) (n:=sN (s.drop k)+7) (l:=l) q1 (fun h=>by omega) q2
  rw [show f-1+1=f from by omega] at q5
  refine ⟨(f-1,k+(sN (s.drop k)+7),l++[(cq (s.drop k)).1]),⟨by simp only;omega,by simp only;omega,by simp;omega,q5.symm.trans h4⟩,by simp only;omega,?_⟩
  exact zFr [3] (zx @q2 (zx @List.length_append.{0} @ATxn.rsnoc))
 ·have hx:(cq (s.drop k)).2.2≠0∨(0<l.length∧(cq (s.drop k)).1.zxid≤az l):=by
   by_cases e:(cq (s.drop k)).2.2=0
   ·rcases hc with h|h
    ·exact .inl h
    ·rw [e] at hg;simp at hg;omega
   ·exact .inl e
  rw [←h4,gG hx];exact zEe trivial
 ·rcases mD (s.drop k) with ⟨q,_⟩|⟨q1,q2,q3,q4,_⟩
  ·exact absurd hc.1 q
  have hl0:l.length=0:=by rw [q1] at hg;simp at hg;rw [hg];rfl
  rw [List.length_drop] at q3
  have q5:=jI (s:=s) (f:=f-1) (at_:=k) (n:=sN (s.drop k)+7) (l:=l) q1 (fun h=>by omega) q2
  rw [show f-1+1=f from by omega] at q5
  refine ⟨(f-1,k+(sN (s.drop k)+7),l++[(cq (s.drop k)).1]),⟨by simp only;omega,by simp only;omega,by simp;omega,q5.symm.trans h4⟩,by simp only;omega,?_⟩
  exact zFr [3] (zx @q2 (zx @List.length_append.{0} @ATxn.rsnoc))
 ·rw [←h4,Bq (by omega)];exact zEe trivial
 all_goals trace_state
def t1:ATxn:=⟨1,1,1,[],[],0,0⟩
theorem sF (s:List UInt8):∀ (f at_:Nat) (l:List ATxn),(fk s f at_ l).1.length≤l.length+f
 |0,_,l=>Nat.le_refl _
 | f + 1,at_,l=>by
   rw [fk]
   split
   ·simp
   ·have:=sF s f (at_+(cq (s.drop at_)).2.1.toNat) (l++[(cq (s.drop at_)).1])
    rw [List.length_append,List.length_singleton] at this
    omega
theorem tq (s:List UInt8):(scanT s).1.length≤s.length+1:=by
 have:=sF s (s.length+1) 0 []
 simpa [scanT] using this
def logN:List UInt8:=[108,111,103]
theorem ik:okS logN:=by unfold okS;decide
theorem de {l:List AFile} {key s:List UInt8} (hk:okS key) (hw:∀ f,f∈l→f.wf):∀ f,f∈(aP l key s).1.files→f.wf:=by
 intro f hf
 unfold aP at hf
 split at hf
 ·cases hf
 ·split at hf
  ·cases hf
  ·split at hf
   ·split at hf
    ·cases hf
    ·obtain ⟨g1,g2,g3,g4⟩:=g0 hw (place (l.map AFile.name) key)
     rcases List.mem_or_eq_of_mem_set hf with h|h
     ·exact hw f h
     ·subst h
      exact ⟨g1,g3,by show okS _;unfold okS;rw [List.length_append];omega⟩
   ·split at hf
    ·cases hf
    ·split at hf
     ·cases hf
     ·rename_i h1
      have hf':f∈l.insertIdx (place (l.map AFile.name) key) ⟨key,[],s⟩:=hf
      rw [List.mem_insertIdx iZ] at hf'
      rcases hf' with h|h
      ·subst h;exact ⟨hk,by show okS [];unfold okS;decide,by show okS s;unfold okS;omega⟩
      ·exact hw f h
def cZ (l:List AFile) (t:ATxn) (safe:Bool):ADisk×Int:=
 if aN t≠0 then (default,aN t)
 else if (aP l logN (cH t).1).2≠0∨safe=false then aP l logN (cH t).1 else bj (aP l logN (cH t).1).1.files logN mF
theorem BE {l:List AFile} {t:ATxn} {safe:Bool}:(cZ l t safe).1.files.length*48≤140737488351232:=by
 unfold cZ;split
 ·exact (by decide:([]:List AFile).length*48≤140737488351232)
 ·split
  ·exact iA
  ·exact tf iA
theorem A7 {t:ATxn} (h:aN t=0):okS (cH t).1∧(cH t).2=0:=by
 obtain ⟨s1,s2⟩:=ij h
 unfold cH;rw [if_pos h]
 refine ⟨?_,rfl⟩
 unfold okS oA
 simp only [List.length_append,iJ,beB_len];omega
theorem H3 {t:ATxn} (h:aN t≠0):cH t=([],aN t):=by unfold cH;rw [if_neg h]
theorem FF (d:ADisk) (t:ATxn) (safe:Bool) (h:d.files.length*48≤140737488351232) (hw:∀ f,f∈d.files→f.wf) (hp:okS t.path) (hd:okS t.data):ab Tryz.prog [] 177 [d.av,t.av,B safe] (ret (.tup [(cZ d.files t safe).1.av,I (cZ d.files t safe).2])):=by
 by_cases hg:aN t=0
 case neg=>
  have he:=qU t hp hd
  rw [H3 hg] at he
  unfold cZ
  rw [if_pos hg]
  refine zJ Tryz.func177 Tryz.ntmps177 Tryz.results177 ?_;simp only [go_sem]
  (refine zW qw (z1 he) trivial (z1 ?_)<;>(repeat with_reducible intro hc))
  all_goals first|(exfalso;omega)|skip
  exact zEe dfl
 obtain ⟨e1,e2⟩:=A7 hg
 have he:=qU t hp hd
 rw [e2] at he
 unfold cZ
 rw [if_neg (fun h=>h hg)]
 have hs:=FZ (aP d.files logN (cH t).1).1 logN iA (de ik hw)
 refine zJ Tryz.func177 Tryz.ntmps177 Tryz.results177 ?_;simp only [go_sem]
 (refine zW qw (z3 he (vo d logN (cH t).1 e1 ik h hw) hs) @logN.eq_1 (z2 ?_ ?_)<;>(repeat with_reducible intro hc))
 ·have hc':(aP d.files logN (cH t).1).2≠0∨safe=false:=hc
  rw [if_pos hc'];exact zEe @logN.eq_1
 ·have hc':¬ ((aP d.files logN (cH t).1).2≠0∨safe=false):=fun h=>by rcases h with h|h;exact h hc.1;rw [hc.2] at h;cases h
  rw [if_neg hc'];exact zEe @logN.eq_1
theorem CG (l:List UInt8):∀ a:Nat,l.foldl (fun v (x:UInt8)=>v*256+x.toNat) a=a*256^l.length+numN l:=by
 induction l with
 |nil=>intro a;simp [numN]
 | cons x l ih=>
   intro a
   unfold numN
   rw [List.foldl_cons,List.foldl_cons,ih,ih,List.length_cons,Nat.pow_succ]
   have:(a*256+x.toNat)*256^l.length=a*(256^l.length*256)+x.toNat*256^l.length:=by rw [Nat.add_mul,Nat.mul_assoc,Nat.mul_comm 256 (256^l.length)]
   rw [this,Nat.zero_mul,Nat.zero_add,Nat.add_assoc]
theorem nM (x:UInt8) (l:List UInt8):numN (x::l)=x.toNat*256^l.length+numN l:=by
 unfold numN
 rw [List.foldl_cons,CG,Nat.zero_mul,Nat.zero_add];rfl
theorem p6:∀ l:List UInt8,numN l<256^l.length
 |[]=>by simp [numN]
 | x::l=>by
   have h:=p6 l
   have hx:=x.toNat_lt
   rw [nM,List.length_cons,Nat.pow_succ]
   have:x.toNat*256^l.length≤255*256^l.length:=Nat.mul_le_mul_right _ (by omega)
   omega
theorem Li (n:Nat):(2:Int)^(8*n)=((256^n:Nat):Int):=by
 rw [Int.pow_mul];simp
theorem qg:∀ (l:List UInt8) (k:Int),beB l.length ((numN l:Int)+(256^l.length:Nat)*k)=l
 |[],_=>rfl
 | x :: l,k=>by
   have hb:=p6 l
   have hx:=x.toNat_lt
   rw [List.length_cons,beB]
   have e:((numN (x::l):Nat):Int)+((256^(l.length+1):Nat):Int)*k=(numN l:Int)+((256^l.length:Nat):Int)*(x.toNat+256*k):=by
    rw [nM,Nat.pow_succ,Int.natCast_add,Int.natCast_mul,Int.natCast_mul,Int.mul_add,Int.mul_comm (x.toNat:Int),Int.mul_assoc]
    generalize ((256^l.length:Nat):Int)*_=a
    simp only [Int.cast_ofNat_Int] at *
    omega
   rw [e,qg l _]
   congr 1
   unfold byteAt
   rw [Li,Int.add_mul_ediv_left _ _ (by have:0<256^l.length:=Nat.pow_pos (by decide)
                                        omega),Int.ediv_eq_zero_of_lt (by omega) (by omega),Int.zero_add]
   rw [show ((x.toNat:Int)+256*k)%256=x.toNat from by omega,Int.toNat_natCast,UInt8.ofNat_toNat]
theorem sT (l:List UInt8) (n:Nat) (h:l.length=n):beB n (numN l:Nat)=l:=by
 subst h
 have:=qg l 0
 rwa [Int.mul_zero,Int.add_zero] at this
theorem Fd (l:List UInt8):∃ k:Int,lx l=(numN l:Int)+18446744073709551616*k:=by
 generalize hn:l.length=n
 induction n generalizing l with
 |zero=>rw [List.length_eq_zero_iff.1 hn];exact ⟨0,rfl⟩
 | succ n ih=>
   have e:l=l.take (n+1):=by rw [←hn,List.take_length]
   obtain ⟨k,hk⟩:=ih (l.take n) (by rw [List.length_take];omega)
   have h1:=ot l n (by omega)
   have h2:=tU l n (by omega)
   rw [←e] at h1 h2
   rw [h1,h2,hk,fC]
   refine ⟨(((numN (l.take n):Int)+18446744073709551616*k)*256+(l.getD n 0).toNat-(numN (l.take n)*256+(l.getD n 0).toNat:Nat)-18446744073709551616*((((numN (l.take n):Int)+18446744073709551616*k)*256+(l.getD n 0).toNat+9223372036854775808)/18446744073709551616))/18446744073709551616,?_⟩
   omega
theorem LG (l:List UInt8) (h:l.length=8):beB 8 (lx l)=l:=by
 obtain ⟨k,hk⟩:=Fd l
 have:=qg l k
 rw [h] at this
 rw [hk];exact this
theorem rJ (x:UInt8):byteAt 0 (x.toNat:Int)=x:=by
 have h:=x.toNat_lt
 unfold byteAt
 simp only [Nat.mul_zero,Int.pow_zero,Int.ediv_one]
 rw [show ((x.toNat:Int))%256=x.toNat from by omega,Int.toNat_natCast,UInt8.ofNat_toNat]
theorem sJ {b:List UInt8} (h:eu b):bu (eS b)=b:=by
 unfold eu at h
 have l1:(b.take 8).length=8:=by rw [List.length_take];omega
 have l2:((b.drop 9).take 4).length=4:=by rw [List.length_take,List.length_drop];omega
 have l3:((b.drop 13).take 4).length=4:=by rw [List.length_take,List.length_drop];omega
 have l4:((b.drop 17).take 4).length=4:=by rw [List.length_take,List.length_drop];omega
 have l5:((b.drop 22).take (bP b)).length=bP b:=by rw [List.length_take,List.length_drop];omega
 have l6:((b.drop (22+bP b)).take 2).length=2:=by rw [List.length_take,List.length_drop];omega
 have l7:(b.drop (24+bP b)).length=bD b:=by rw [List.length_drop];omega
 unfold bu b7 b6 b5 eS
 simp only [l5,l7]
 rw [LG _ l1,sT _ 4 l2,sT _ 4 l3,sT _ 4 l4,rJ]
 rw [show ((bP b:Nat):Int)=((b.getD 21 0).toNat:Int) from rfl,rJ]
 rw [show bD b=numN ((b.drop (22+bP b)).take 2) from rfl,sT _ 2 l6]
 have one (k:Nat) (hk:k<b.length):[b.getD k 0]=(b.drop k).take 1:=by
  rw [List.drop_eq_getElem_cons hk,List.getD_eq_getElem?_getD,List.getElem?_eq_getElem hk];rfl
 rw [one 8 (by omega),one 21 (by omega)]
 have j (m n k:Nat) (hk:m+n=k):b.take m++(b.drop m).take n=b.take k:=by subst hk;exact List.take_add.symm
 rw [j 8 1 9 rfl,j 9 4 13 rfl,j 13 4 17 rfl,j 17 4 21 rfl,j 21 1 22 rfl,j 22 (bP b) (22+bP b) rfl,j (22+bP b) 2 (24+bP b) (by omega),List.take_append_drop]
theorem vO {s:List UInt8} (h:(cq s).2.2=0):¬ dA s∧¬ dV s∧¬ gO s∧eu (sB s)∧aN (eS (sB s))=0:=by
 by_cases h1:dA s
 ·rw [qJ h1] at h;cases h
 by_cases h2:dV s
 ·rw [vq h1 h2] at h;cases h
 by_cases h3:gO s
 ·rw [yL h1 h2 h3] at h;cases h
 by_cases h4:eu (sB s)
 case neg=>rw [Aq h1 h2 h3 h4] at h;cases h
 by_cases h5:aN (eS (sB s))=0
 ·exact ⟨h1,h2,h3,h4,h5⟩
 ·rw [yT h1 h2 h3 h4 h5] at h;exact absurd h h5
theorem Et {s:List UInt8} (h:(cq s).2.2=0):cH (cq s).1=(s.take (sN s+7),0):=by
 obtain ⟨h1,h2,h3,h4,h5⟩:=vO h
 rw [vu h1 h2 h3 h4 h5]
 unfold dA at h1
 unfold dV at h2
 unfold gO at h3
 have h3':numN ((s.drop (sN s+3)).take 4)=mR (s.take (sN s+3)):=Classical.byContradiction h3
 have h84:s.getD 0 0=84:=Classical.byContradiction fun e=>h1 (.inr e)
 have hl:((bu (eS (sB s))).length:Int)=(sN s:Nat):=by
  rw [sJ h4];unfold sB;rw [List.length_take,List.length_drop];omega
 have l2:((s.drop 1).take 2).length=2:=by rw [List.length_take,List.length_drop];omega
 have l4:((s.drop (sN s+3)).take 4).length=4:=by rw [List.length_take,List.length_drop];omega
 have one:[(84:UInt8)]=s.take 1:=by
  rw [←h84,List.getD_eq_getElem?_getD,List.getElem?_eq_getElem (by omega)]
  rcases s with _|⟨x,s⟩
  ·simp at h1
  ·rfl
 have j (m n k:Nat) (hk:m+n=k):s.take m++(s.drop m).take n=s.take k:=by subst hk;exact List.take_add.symm
 have hh:dF (eS (sB s))=s.take (sN s+3):=by
  unfold dF
  rw [hl,sJ h4,one,show sN s=numN ((s.drop 1).take 2) from rfl,sT _ 2 l2,j 1 2 3 rfl]
  exact j 3 _ _ (by rw [Nat.add_comm];rfl)
 unfold cH
 rw [if_pos h5]
 unfold oA
 rw [hh,←h3',sT _ 4 l4,j (sN s+3) 4 (sN s+7) rfl]
def encs (l:List ATxn):List UInt8:=(l.map fun t=>(cH t).1).flatten
theorem fe:encs []=[]:=rfl
theorem iW (l:List ATxn) (t:ATxn):encs (l++[t])=encs l++(cH t).1:=by unfold encs;simp
theorem tM (l:List ATxn) (k:Nat) (h:k<l.length):encs (l.take (k+1))=encs (l.take k)++(cH (l.getD k default)).1:=by rw [cD l k h,iW]
def logOk (l:List ATxn):Prop:=(∀ k,k+1<l.length→(l.getD k default).zxid<(l.getD (k+1) default).zxid)∧∀ t,t∈l→aN t=0
theorem kV:logOk []:=⟨fun k h=>by simp at h,fun t h=>by cases h⟩
theorem ju {l:List ATxn} {t:ATxn} (h:logOk l) (hz:0<l.length→az l<t.zxid) (ht:aN t=0):logOk (l++[t]):=by
 have g1:∀ j,j<l.length→(l++[t]).getD j default=l.getD j default:=fun j hj=>by
  rw [List.getD_eq_getElem?_getD,List.getElem?_append_left hj,List.getD_eq_getElem?_getD]
 have g2:(l++[t]).getD l.length default=t:=by simp [List.getD_eq_getElem?_getD]
 refine ⟨fun k hk=>?_,fun x hx=>?_⟩
 ·rw [List.length_append,List.length_singleton] at hk
  rw [g1 k (by omega)]
  by_cases e:k+1=l.length
  ·rw [e,g2]
   have:=hz (by omega)
   rw [dK (by omega),show l.length-1=k from by omega] at this
   exact this
  ·rw [g1 _ (by omega)];exact h.1 k (by omega)
 ·rcases List.mem_append.1 hx with h1|h1
  ·exact h.2 x h1
  ·rw [List.mem_singleton.1 h1];exact ht
theorem gJ {l:List ATxn} (h:logOk l) {i:Nat}:∀ {j:Nat},i<j→j<l.length→(l.getD i default).zxid<(l.getD j default).zxid
 |0,h1,_=>by omega
 | j+1,h1,h2=>by
   by_cases e:i=j
   ·subst e;exact h.1 i h2
   ·exact Int.lt_trans (gJ h (by omega) (by omega)) (h.1 j h2)
theorem wF (s:List UInt8):∀ (f at_:Nat) (l:List ATxn),logOk l→encs l=s.take at_→at_≤s.length→logOk (fk s f at_ l).1∧encs (fk s f at_ l).1=s.take (fk s f at_ l).2∧(fk s f at_ l).2≤s.length
 |0,at_,l,h1,h2,h3=>⟨h1,h2,h3⟩
 | f + 1,at_,l,h1,h2,h3=>by
   by_cases hc:(cq (s.drop at_)).2.2≠0∨(0<l.length∧(cq (s.drop at_)).1.zxid≤az l)
   ·rw [gG hc];exact ⟨h1,h2,h3⟩
   ·have hz:(cq (s.drop at_)).2.2=0:=Classical.byContradiction fun h=>hc (.inl h)
    have hr:¬ (0<l.length∧(cq (s.drop at_)).1.zxid≤az l):=fun h=>hc (.inr h)
    rcases mD (s.drop at_) with ⟨c,_⟩|⟨_,c2,c3,_,c5⟩
    ·exact absurd hz c
    rw [jI hz hr c2]
    rw [List.length_drop] at c3
    refine wF s f _ _ (ju h1 (fun h0=>?_) c5) ?_ (by omega)
    ·exact Int.not_le.1 fun h=>hr ⟨h0,h⟩
    ·rw [iW,h2,Et hz];exact List.take_add.symm
theorem mS (s:List UInt8):logOk (scanT s).1∧encs (scanT s).1=s.take (scanT s).2∧(scanT s).2≤s.length:=wF s _ 0 [] kV rfl (Nat.zero_le _)
def keepL (l:List ATxn) (z:Int):List ATxn:=l.filter fun t=>decide (t.zxid≤z)
theorem qP {l:List ATxn} {z:Int} {k:Nat} (hr:logOk l) (hk:k≤l.length) (h1:∀ j,j<k→(l.getD j default).zxid≤z) (h2:k<l.length→z<(l.getD k default).zxid):keepL l z=l.take k:=by
 unfold keepL
 conv=>lhs;rw [←List.take_append_drop k l]
 rw [List.filter_append]
 have e1:(l.take k).filter (fun t=>decide (t.zxid≤z))=l.take k:=by
  rw [List.filter_eq_self]
  intro t ht
  obtain ⟨j,hj,rfl⟩:=List.mem_take_iff_getElem.1 ht
  have:=h1 j (by omega)
  rw [List.getD_eq_getElem?_getD,List.getElem?_eq_getElem (by omega)] at this
  simpa using this
 have e2:(l.drop k).filter (fun t=>decide (t.zxid≤z))=[]:=by
  rw [List.filter_eq_nil_iff]
  intro t ht
  obtain ⟨j,hj,rfl⟩:=List.mem_drop_iff_getElem.1 ht
  have a:=h2 (by omega)
  have:z<(l.getD (k+j) default).zxid:=by
   by_cases e:j=0
   ·subst e;exact a
   ·exact Int.lt_trans a (gJ hr (by omega) (by omega))
  rw [List.getD_eq_getElem?_getD,List.getElem?_eq_getElem (by omega)] at this
  simpa using this
 rw [e1,e2,List.append_nil]
theorem Fw {l:List ATxn} {k:Nat}:encs (l.take k)=(encs l).take (encs (l.take k)).length:=by
 conv=>rhs;rw [show encs l=encs (l.take k)++encs (l.drop k) from by unfold encs;rw [←List.flatten_append,←List.map_append,List.take_append_drop]]
 rw [List.take_left'];rfl
theorem nm (l:List AFile) (k:Nat):(l.map AFile.name).getD k []=(l.getD k default).name:=fM AFile.name l k default
theorem gr {l:List AFile}:bF l=true↔l.length≤16∧∀ k,k<l.length→xB l k:=by unfold bF;rw [decide_eq_true_eq]
theorem Dy {l:List AFile} {p:Nat} {x:AFile} (h:bF l=true) (hn:x.name=(l.getD p default).name) (hl:x.safe.length+x.tail.length≤1048576):bF (l.set p x)=true:=by
 rw [gr] at h ⊢
 have g (j:Nat):((l.set p x).getD j default).name=(l.getD j default).name:=by
  simp only [List.getD_eq_getElem?_getD,List.getElem?_set]
  split
  ·rename_i e;subst e
   split
   ·exact hn
   ·rename_i h2;rw [List.getElem?_eq_none (by omega)]
  ·rfl
 refine ⟨by rw [List.length_set];exact h.1,fun k hk=>?_⟩
 rw [List.length_set] at hk
 obtain ⟨a,b⟩:=h.2 k hk
 refine ⟨⟨by rw [g];exact a.1,?_⟩,by rw [g,g];exact b⟩
 simp only [List.getD_eq_getElem?_getD,List.getElem?_set]
 split
 ·rename_i e;subst e
  split
  ·exact hl
  ·omega
 ·simpa only [List.getD_eq_getElem?_getD] using a.2
theorem En {ns:List (List UInt8)} {key:List UInt8} {k:Nat} (h:k<place ns key):ns.getD k []<key:=by
 have hl:=fI ns key
 have:=List.not_of_lt_findIdx (p:=fun x=>!decide (x<key)) (xs:=ns) h
 rw [List.getD_eq_getElem?_getD,List.getElem?_eq_getElem (by omega)]
 simpa using this
theorem F5 {ns:List (List UInt8)} {key:List UInt8} (h:place ns key<ns.length):¬ ns.getD (place ns key) []<key:=by
 have:=List.findIdx_getElem (p:=fun x=>!decide (x<key)) (xs:=ns) (w:=h)
 rw [Bool.not_eq_true',decide_eq_false_iff_not] at this
 rw [List.getD_eq_getElem?_getD,List.getElem?_eq_getElem h]
 exact this
theorem mq {α:Type} (l:List α) (i k:Nat) (x z:α) (h:i≤l.length) (hk:i<k):(l.insertIdx i x).getD k z=l.getD (k-1) z:=by
 rw [ev _ _ _ h,List.getD_eq_getElem?_getD,List.getElem?_append_right (by rw [List.length_take];omega),List.length_take,Nat.min_eq_left h,show k-i=(k-i-1)+1 from by omega,List.getElem?_cons_succ,List.getElem?_drop,List.getD_eq_getElem?_getD]
 congr 2;omega
theorem BV {l:List AFile} {key:List UInt8} {x:AFile} (h:bF l=true) (hx:x.name=key) (hm:¬ key∈l.map AFile.name) (hn:a8 key=true) (hf:l.length<16) (hs:x.safe.length+x.tail.length≤1048576):bF (l.insertIdx (place (l.map AFile.name) key) x)=true:=by
 have hr:=dq h
 have hp:=iZ (l:=l) (key:=key)
 have lo:∀ j,j<place (l.map AFile.name) key→(l.getD j default).name<key:=fun j hj=>by rw [←nm];exact En hj
 have hi:∀ j,place (l.map AFile.name) key≤j→j<l.length→key<(l.getD j default).name:=fun j h1 h2=>by
  have a:=F5 (ns:=l.map AFile.name) (key:=key) (by rw [List.length_map];omega)
  have b:key<(l.map AFile.name).getD (place (l.map AFile.name) key) []:=tD a fun e=>hm (by rw [←e];exact cp _ _ (by rw [List.length_map];omega))
  by_cases e:place (l.map AFile.name) key=j
  ·rw [←nm,←e];exact b
  ·have:=bd hr (i:=place (l.map AFile.name) key) (j:=j) (by omega) (by rw [List.length_map];omega)
   rw [nm l j] at this
   exact List.lt_trans b this
 generalize place (l.map AFile.name) key=p at *
 rw [gr] at h ⊢
 refine ⟨by rw [eI _ _ _ hp];omega,fun k hk=>?_⟩
 rw [eI _ _ _ hp] at hk
 rcases Nat.lt_trichotomy k p with hkp|hkp|hkp
 ·obtain ⟨a,b⟩:=h.2 k (by omega)
  refine ⟨?_,fun h0=>?_⟩
  ·rw [eJ _ _ _ _ _ hp hkp];exact a
  ·rw [eJ _ _ _ _ _ hp hkp,eJ _ _ _ _ _ hp (by omega)];exact b h0
 ·subst hkp
  refine ⟨?_,fun h0=>?_⟩
  ·rw [fK _ _ _ _ hp];exact ⟨by rw [hx];exact hn,hs⟩
  ·rw [fK _ _ _ _ hp,eJ _ _ _ _ _ hp (by omega),hx];exact lo _ (by omega)
 ·obtain ⟨a,b⟩:=h.2 (k-1) (by omega)
  refine ⟨?_,fun h0=>?_⟩
  ·rw [mq _ _ _ _ _ hp hkp];exact a
  ·rw [mq _ _ _ _ _ hp hkp]
   by_cases e:k-1=p
   ·rw [e,fK _ _ _ _ hp,hx];exact hi _ (Nat.le_refl _) (by omega)
   ·rw [mq _ _ _ _ _ hp (by omega)];exact b (by omega)
def recoverD (l:List AFile):List ATxn×ADisk×Int:=
 if (readD l logN).2=7 then (if (aP l logN []).2=0 then ([],(aP l logN []).1,0) else ([],default,(aP l logN []).2))
 else if (readD l logN).2=0 then ((scanT (readD l logN).1).1,(bj l logN (lP (scanT (readD l logN).1).2)).1,0)
 else ([],default,(readD l logN).2)
theorem nk {l:List AFile} (key:List UInt8):(readD l key).1.length≤1048576:=by
 unfold readD
 split
 ·decide
 ·rename_i hg
  split
  ·rename_i hm
   have hg':bF l=true:=by simpa using hg
   have hp:=fQ hg' hm
   have:=((gr.1 hg').2 _ hp).1.2
   simp only [List.length_append];exact this
  ·decide
theorem oH {l:List AFile} {key:List UInt8} (h:(readD l key).2=0):bF l=true∧key∈l.map AFile.name∧(readD l key).1=(l.getD (place (l.map AFile.name) key) default).safe++(l.getD (place (l.map AFile.name) key) default).tail:=by
 unfold readD at h ⊢
 split at h
 ·cases h
 ·rename_i hg
  split at h
  ·rename_i hm
   rw [if_neg hg,if_pos hm]
   exact ⟨by simpa using hg,hm,rfl⟩
  ·cases h
theorem y8 {l:List AFile} {key:List UInt8} (h:(readD l key).2=7):bF l=true∧¬ key∈l.map AFile.name:=by
 unfold readD at h
 split at h
 ·cases h
 ·rename_i hg
  split at h
  ·cases h
  ·rename_i hm;exact ⟨by simpa using hg,hm⟩
theorem EN {l:List AFile} {key:List UInt8} {n:Nat} (hg:bF l=true) (hm:key∈l.map AFile.name) (hn:n≤((l.getD (place (l.map AFile.name) key) default).safe++(l.getD (place (l.map AFile.name) key) default).tail).length) :
  bj l key (lP n)=(⟨l.set (place (l.map AFile.name) key) ⟨key,((l.getD (place (l.map AFile.name) key) default).safe++(l.getD (place (l.map AFile.name) key) default).tail).take n,[]⟩⟩,0):=by
 have e:lP n (l.getD (place (l.map AFile.name) key) default)=(⟨(l.getD (place (l.map AFile.name) key) default).name,((l.getD (place (l.map AFile.name) key) default).safe++(l.getD (place (l.map AFile.name) key) default).tail).take n,[]⟩,0):=by
  rw [List.length_append] at hn
  unfold lP;rw [if_neg (by omega),Int.toNat_natCast]
 rw [gw hg hm (by rw [e]),e]
 have:=(ao (dq hg) hm).2
 rw [nm] at this
 simp only [this]
theorem mW {l:List AFile} (h:(readD l logN).2=0):(bj l logN (lP (scanT (readD l logN).1).2))=(⟨l.set (place (l.map AFile.name) logN) ⟨logN,encs (scanT (readD l logN).1).1,[]⟩⟩,0):=by
 obtain ⟨a,b,c⟩:=oH h
 obtain ⟨d1,d2,d3⟩:=mS (readD l logN).1
 rw [EN a b (by rw [←c];exact d3),←c,←d2]
theorem fq:a8 logN=true:=by decide
theorem GV {α:Type} (l:List α) (p:Nat) (x z:α) (h:p<l.length):(l.set p x).getD p z=x:=by
 rw [List.getD_eq_getElem?_getD,List.getElem?_set_self h];rfl
theorem uY {l:List AFile} {p:Nat} {x:AFile} (h:x.name=(l.getD p default).name):(l.set p x).map AFile.name=l.map AFile.name:=by
 apply List.ext_getElem?
 intro j
 rw [List.getElem?_map,List.getElem?_map,List.getElem?_set]
 split
 ·rename_i e;subst e
  split
  ·rename_i h2;rw [List.getD_eq_getElem?_getD,List.getElem?_eq_getElem h2] at h;rw [List.getElem?_eq_getElem h2];simp [h]
  ·rename_i h2;rw [List.getElem?_eq_none (by omega)]
 ·rfl
structure RecOk (l:List AFile) (r:List AFile) (L:List ATxn):Prop where
 good:bF r=true
 mem:logN∈r.map AFile.name
 file:r.getD (place (r.map AFile.name) logN) default=⟨logN,encs L,[]⟩
 ok:logOk L
 len:(encs L).length≤1048576
 cnt:L.length≤1048577
 wf:(∀ f,f∈l→f.wf)→∀ f,f∈r→f.wf
theorem Ah {l:List AFile} (h:bF l=true):l.length*48≤140737488351232:=by have:=qk h;omega
theorem jl {l:List AFile} (h:(recoverD l).2.2=0):RecOk l (recoverD l).2.1.files (recoverD l).1:=by
 unfold recoverD at h ⊢
 by_cases h7:(readD l logN).2=7
 ·rw [if_pos h7] at h ⊢
  by_cases hw:(aP l logN []).2=0
  ·rw [if_pos hw]
   obtain ⟨a,b⟩:=y8 h7
   have hwf:=fun h0=>de (l:=l) (s:=[]) ik h0
   unfold aP at hw ⊢ hwf
   rw [if_neg (by simp [a]),if_neg (by simp [fq]),if_neg b] at hw ⊢ hwf
   split at hw
   ·cases hw
   rename_i h16
   rw [if_neg h16,if_neg (by decide)] at hwf ⊢
   have hpl:=iZ (l:=l) (key:=logN)
   have hg:=BV (x:=⟨logN,[],[]⟩) a rfl b fq (by omega) (by decide)
   have hnm:((l.insertIdx (place (l.map AFile.name) logN) (⟨logN,[],[]⟩:AFile)).map AFile.name).getD (place (l.map AFile.name) logN) []=logN:=by
    rw [nm,fK _ _ _ _ hpl]
   have hlt:place (l.map AFile.name) logN<((l.insertIdx (place (l.map AFile.name) logN) (⟨logN,[],[]⟩:AFile)).map AFile.name).length:=by
    rw [List.length_map,eI _ _ _ hpl];omega
   have hpe:=vP (dq hg) hlt
   rw [hnm] at hpe
   refine ⟨hg,?_,?_,kV,(Nat.zero_le 1048576),(Nat.zero_le 1048577),hwf⟩
   ·have:=cp _ [] hlt
    rw [hnm] at this;exact this
   ·show (l.insertIdx _ _).getD (place ((l.insertIdx _ _).map AFile.name) logN) default=_
    rw [hpe,fK _ _ _ _ hpl];rfl
  ·rw [if_neg hw] at h;exact absurd h hw
 ·rw [if_neg h7] at h ⊢
  by_cases h0:(readD l logN).2=0
  ·rw [if_pos h0] at h ⊢
   rw [mW h0]
   obtain ⟨a,b,c⟩:=oH h0
   obtain ⟨d1,d2,d3⟩:=mS (readD l logN).1
   have hlen:=nk (l:=l) logN
   have he:(encs (scanT (readD l logN).1).1).length≤1048576:=by rw [d2,List.length_take];omega
   have hp:=fQ a b
   have hn:=(ao (dq a) b).2
   rw [nm] at hn
   have hmn:(l.set (place (l.map AFile.name) logN) (⟨logN,encs (scanT (readD l logN).1).1,[]⟩:AFile)).map AFile.name=l.map AFile.name:=uY hn.symm
   refine ⟨Dy a hn.symm (by simpa using he),?_,?_,d1,he,by have:=tq (readD l logN).1;show (scanT _).1.length≤_;omega,fun hwf f hf=>?_⟩
   ·show logN∈(l.set _ _).map AFile.name
    rw [hmn];exact b
   ·show (l.set _ _).getD (place ((l.set _ _).map AFile.name) logN) default=_
    rw [hmn,GV _ _ _ _ hp]
   ·rcases List.mem_or_eq_of_mem_set hf with h1|h1
    ·exact hwf f h1
    ·subst h1;exact ⟨ik,by show okS (encs (scanT (readD l logN).1).1);unfold okS;omega,by show okS [];unfold okS;decide⟩
  ·rw [if_neg h0] at h;exact absurd h h0
theorem rk {l:List AFile}:(recoverD l).2.1.files.length*48≤140737488351232:=by
 unfold recoverD
 split
 ·split
  ·exact iA
  ·exact (by decide:([]:List AFile).length*48≤140737488351232)
 ·split
  ·rename_i h0
   rw [mW h0]
   have:=Ah (oH h0).1
   show (l.set _ _).length*48≤_
   rw [List.length_set];exact this
  ·exact (by decide:([]:List AFile).length*48≤140737488351232)
theorem xg (l:List AFile):(recoverD l).1.length*72≤140737488351232:=by
 unfold recoverD
 split
 ·split<;>exact (by decide:([]:List ATxn).length*72≤140737488351232)
 ·split
  ·have a:=tq (readD l logN).1
   have b:=nk (l:=l) logN
   simp only;omega
  ·exact (by decide:([]:List ATxn).length*72≤140737488351232)
theorem MD {l:List AFile} (h:(readD l logN).2=7) (h2:¬ (aP l logN []).2=0):recoverD l=([],default,(aP l logN []).2):=by unfold recoverD;rw [if_pos h,if_neg h2]
theorem Ms {l:List AFile} (h:(readD l logN).2=7) (h2:(aP l logN []).2=0):recoverD l=([],(aP l logN []).1,0):=by unfold recoverD;rw [if_pos h,if_pos h2]
theorem Ls {l:List AFile} (h:¬ (readD l logN).2=7) (h2:¬ (readD l logN).2=0):recoverD l=([],default,(readD l logN).2):=by unfold recoverD;rw [if_neg h,if_neg h2]
theorem JN {l:List AFile} (h:¬ (readD l logN).2=7) (h2:(readD l logN).2=0):recoverD l=((scanT (readD l logN).1).1,(bj l logN (lP (scanT (readD l logN).1).2)).1,0):=by unfold recoverD;rw [if_neg h,if_pos h2]
set_option maxHeartbeats 2000000 in
theorem ov (d:ADisk) (h:d.files.length*48≤140737488351232) (hw:∀ f,f∈d.files→f.wf):ab Tryz.prog [] 37 [d.av] (ret (.tup [.d (.sl 7 ((recoverD d.files).1.map ATxn.row)),(recoverD d.files).2.1.av,I (recoverD d.files).2.2])):=by
 have hr:=ET d logN h hw
 have hs:=Ko _ (nk (l:=d.files) logN)
 have hcut:=JP d logN (scanT (readD d.files logN).1).2 h hw
 have hwr:=vo d logN [] (by unfold okS;decide) ik h hw
 refine zJ Tryz.func37 Tryz.ntmps37 Tryz.results37 ?_;simp only [go_sem]
 (refine zW qw (z4 hr hwr hs hcut) @logN.eq_1 (zc ?_ (z4 ?_ ?_ ?_ ?_))<;>(repeat with_reducible intro hc))
 ·rw [MD (by assumption) (by assumption)];exact zEe (zx @logN.eq_1 dfl)
 ·rw [Ms (by assumption) (by assumption)];exact zEe (zx @logN.eq_1 dfl)
 ·rw [Ls (by assumption) (by assumption)];exact zEe (zx @logN.eq_1 dfl)
 ·have e:=mW (l:=d.files) (by assumption)
  exact absurd (congrArg Prod.snd e) hc
 ·rw [JN (by assumption) (by assumption)];exact zEe @logN.eq_1
def keepD (l:List AFile) (z:Int):ADisk×Int:=
 if (recoverD l).2.2=0 then (⟨(recoverD l).2.1.files.set (place ((recoverD l).2.1.files.map AFile.name) logN) ⟨logN,encs (keepL (recoverD l).1 z),[]⟩⟩,0) else (default,(recoverD l).2.2)
theorem Bi {l:List AFile} {z:Int} (h:¬ (recoverD l).2.2=0):keepD l z=(default,(recoverD l).2.2):=by unfold keepD;rw [if_neg h]
theorem qY {l:List AFile} {z:Int} (h:(recoverD l).2.2=0):keepD l z=(⟨(recoverD l).2.1.files.set (place ((recoverD l).2.1.files.map AFile.name) logN) ⟨logN,encs (keepL (recoverD l).1 z),[]⟩⟩,0):=by unfold keepD;rw [if_pos h]
theorem Az {l:List AFile} {z:Int}:(keepD l z).1.files.length*48≤140737488351232:=by
 unfold keepD
 split
 ·have:=rk (l:=l)
  show (List.set _ _ _).length*48≤_
  rw [List.length_set];exact this
 ·exact (by decide:([]:List AFile).length*48≤140737488351232)
theorem iy (l:List ATxn) (k:Nat):(encs (l.take k)).length≤(encs l).length:=by
 have:encs l=encs (l.take k)++encs (l.drop k):=by unfold encs;rw [←List.flatten_append,←List.map_append,List.take_append_drop]
 rw [this,List.length_append];omega
theorem pk (p:ATxn→Bool):∀ l:List ATxn,(encs (l.filter p)).length≤(encs l).length
 |[]=>Nat.le_refl _
 | t::l=>by
   have ih:=pk p l
   have e (x:ATxn) (r:List ATxn):(encs (x::r)).length=(cH x).1.length+(encs r).length:=by unfold encs;simp
   by_cases h:p t=true
   ·rw [List.filter_cons_of_pos h,e,e];omega
   ·rw [List.filter_cons_of_neg h,e];omega
theorem D4 {l:List AFile} {z:Int} {k:Nat} (h:(recoverD l).2.2=0) (hk:k≤(recoverD l).1.length) (h1:∀ j,j<k→((recoverD l).1.getD j default).zxid≤z) (h2:k<(recoverD l).1.length→z<((recoverD l).1.getD k default).zxid) :
  bj (recoverD l).2.1.files logN (lP (encs ((recoverD l).1.take k)).length)=keepD l z:=by
 have o:=jl h
 have hl:=iy (recoverD l).1 k
 rw [qY h,EN o.good o.mem (by rw [o.file];simpa using hl),o.file,qP o.ok hk h1 h2]
 simp only [List.append_nil]
 rw [←Fw]
theorem Iu {l:List AFile} (h:(recoverD l).2.2=0) {k:Nat} (hk:k<(recoverD l).1.length):aN ((recoverD l).1.getD k default)=0:=(jl h).ok.2 _ (bU _ _ hk)
set_option maxHeartbeats 2000000 in
theorem Kq (d:ADisk) (z:Int) (h:d.files.length*48≤140737488351232) (hw:∀ f,f∈d.files→f.wf):ab Tryz.prog [] 183 [d.av,I z] (ret (.tup [(keepD d.files z).1.av,I (keepD d.files z).2])):=by
 by_cases h0:(recoverD d.files).2.2=0
 case neg=>
  rw [Bi h0]
  refine zJ Tryz.func183 Tryz.ntmps183 Tryz.results183 ?_;simp only [go_sem]
  (refine zW qw (z1 (ov d h hw)) trivial (z1 ?_)<;>(repeat with_reducible intro hc))
  all_goals first|(exfalso;omega)|skip
  exact zEe dfl
 have o:=jl h0
 have hrc:=ov d h hw
 rw [h0] at hrc
 have hcnt:=xg d.files
 have hcuts (n:Nat):=JP (recoverD d.files).2.1 logN n rk (o.wf hw)
 have htx (k:Nat) (hk:k<(recoverD d.files).1.length):=Iu h0 hk
 have hkc (k:Nat) (hk:k≤(recoverD d.files).1.length):=D4 (z:=z) h0 hk
 have hlen:=o.len
 generalize hR:(recoverD d.files).2.1=R at hrc hcuts hkc
 generalize hL:(recoverD d.files).1=L at hrc hcnt htx hkc hlen
 refine zJ Tryz.func183 Tryz.ntmps183 Tryz.results183 ?_;simp only [go_sem]
 (refine zW qw (z1 hrc) trivial (z1 ?_)<;>(repeat with_reducible intro hc))
 refine AWP.loopB (ι:=Nat) (fun k=>k≤L.length∧∀ j,j<k→(L.getD j default).zxid≤z) (fun k=>L.length-k) [1,2,4,23,24] (fun k=>[(25,I k),(8,I (encs (L.take k)).length)]) (fun k=>[.cells [.d (.sl 3 (R.files.map AFile.row))],.cells [.d (.sc (.slice none 0 0))]]) 0 ?_ ?_ ?_
 ·exact ⟨by omega,fun j hj=>by omega⟩
 ·simp only [go_sem,List.take_zero,fe];exact zSm trivial
 intro k ⟨hk,hk2⟩
 simp only [go_sem]
 by_cases hkl:k<L.length
 ·have hg:=htx k hkl
  obtain ⟨s1,s2⟩:=ij hg
  obtain ⟨e1,e2⟩:=A7 hg
  have he:=qU (L.getD k default) (by unfold okS;omega) (by unfold okS;omega)
  have hlt:=iy L (k+1)
  rw [tM L k hkl,List.length_append] at hlt
  rw [e2] at he
  (refine zW qw (z2 he (hcuts (encs (L.take k)).length)) @logN.eq_1 (z2 ?_ ?_)<;>(repeat with_reducible intro hc))
  ·have e:bj R.files [108,111,103] (lP (encs (L.take k)).length)=keepD d.files z:=hkc k hk hk2 (fun _=>hc)
   exact zEe @e
  ·refine ⟨k+1,⟨by omega,fun j hj=>?_⟩,by omega,?_⟩
   ·by_cases ej:j=k
    ·subst ej;exact hc
    ·exact hk2 j (by omega)
   rw [tM L k hkl,List.length_append]
   exact zFr [0,1] @Int.natCast_add
 ·(refine zW qw (z1 (hcuts (encs (L.take k)).length)) @logN.eq_1 (z1 ?_)<;>(repeat with_reducible intro hc))
  have e:bj R.files [108,111,103] (lP (encs (L.take k)).length)=keepD d.files z:=hkc k hk hk2 (fun h=>by omega)
  exact zEe @e
def ck:List (List UInt8)→List UInt8
 |[]=>[]
 |p::ps=>47::(p++ck ps)
def bV (ps:List (List UInt8)):List UInt8:=if ps=[] then [47] else ck ps
theorem ua (a b:List (List UInt8)):ck (a++b)=ck a++ck b:=by
 induction a with
 |nil=>rfl
 |cons p a ih=>simp [ck,ih]
theorem lj (b:List UInt8):bK (47::b)=[]::bK b:=by simp [bK]
theorem gb {c:UInt8} (h:¬ c=47) (r:List UInt8):bK (c::r)=match bK r with
  |p::ps=>(c::p)::ps
  |[]=>[[c]]:=by simp only [bK,if_neg h]<;>(cases bK r<;>rfl)
theorem Ab (a b:List UInt8):bK (a++47::b)=bK a++bK b:=by
 induction a with
 |nil=>exact lj b
 | cons c a ih=>
   by_cases h:c=47
   ·subst h
    rw [List.cons_append,lj,lj,ih];rfl
   ·rw [List.cons_append,gb h,gb h,ih]
    cases hs:bK a with
    |nil=>exact absurd hs (BI a)
    |cons p ps=>rfl
theorem sG {p:List UInt8} (h:(47:UInt8)∉p):bK p=[p]:=by
 induction p with
 |nil=>rfl
 | cons c p ih=>
   rw [List.mem_cons,not_or] at h
   rw [gb (fun e=>h.1 e.symm),ih h.2]
theorem wV {p:List UInt8} {ps:List (List UInt8)} (hp:(47:UInt8)∉p) (h:∀ q,q∈ps→(47:UInt8)∉q):bK (p++ck ps)=p::ps:=by
 induction ps generalizing p with
 |nil=>rw [ck,List.append_nil,sG hp]
 | cons q ps ih=>
   rw [ck,Ab,sG hp,ih (h q (by simp)) (fun x hx=>h x (List.mem_cons_of_mem _ hx))];rfl
theorem oT:∀ (r:List UInt8),∃ q qs,bK r=q::qs∧r=q++ck qs
 |[]=>⟨[],[],rfl,rfl⟩
 | c :: r=>by
   obtain ⟨q,qs,e1,e2⟩:=oT r
   by_cases h:c=47
   ·subst h
    exact ⟨[],q::qs,by rw [lj,e1],by rw [e2];rfl⟩
   ·refine ⟨c::q,qs,?_,by rw [e2];rfl⟩
    rw [gb h,e1]
theorem nB {p:List UInt8} (h:a8 p=true):(47:UInt8)∉p:=by
 intro hm
 unfold a8 at h
 rw [Bool.and_eq_true,List.all_eq_true] at h
 have:=h.1 _ hm
 revert this;decide
def da (s:List UInt8):List (List UInt8):=if s=[47] then [] else bK (s.drop 1)
theorem iI {s:List UInt8} (h:bw s=true):s=bV (da s)∧(∀ q,q∈da s→a8 q=true)∧s.length≤200∧∀ q,q∈da s→(47:UInt8)∉q:=by
 have hl:=nV h
 have key:s=bV (da s)∧(∀ q,q∈da s→a8 q=true):=by
  unfold da
  by_cases h47:s=[47]
  ·rw [if_pos h47]
   exact ⟨by rw [h47];rfl,by simp⟩
  ·rw [if_neg h47]
   unfold bw at h
   rw [decide_eq_false h47,Bool.false_or,Bool.and_eq_true,Bool.and_eq_true,decide_eq_true_eq,decide_eq_true_eq] at h
   obtain ⟨_,⟨h1,h2⟩,h3⟩:=h
   cases s with
   |nil=>simp at h1
   | cons c r=>
     have hc:c=47:=by simpa using h2
     subst hc
     obtain ⟨q,qs,e1,e2⟩:=oT r
     refine ⟨?_,fun x hx=>?_⟩
     ·show 47::r=bV (bK r)
      rw [e1]
      unfold bV
      rw [if_neg (by simp),ck,←e2]
     ·unfold cb at h3
      exact List.all_eq_true.1 h3 x hx
 exact ⟨key.1,key.2,hl,fun q hq=>nB (key.2 q hq)⟩
theorem xo {ps:List (List UInt8)} (h:ps≠[]):ck ps≠[]:=by
 cases ps with
 |nil=>exact absurd rfl h
 |cons p ps=>simp [ck]
theorem GL {ps:List (List UInt8)} (hn:∀ q,q∈ps→a8 q=true):ck ps≠[47]:=by
 cases ps with
 |nil=>simp [ck]
 | cons p ps=>
   intro h
   have hp:=hn p (by simp)
   rw [ck,List.cons.injEq] at h
   have h2:=List.append_eq_nil_iff.1 h.2
   rw [h2.1] at hp
   revert hp;decide
theorem nJ {ps:List (List UInt8)} (hn:∀ q,q∈ps→a8 q=true):bV ps=[47]↔ps=[]:=by
 unfold bV
 split
 ·rename_i h;exact iff_of_true rfl h
 ·rename_i h;exact iff_of_false (GL hn) h
theorem gf {ps:List (List UInt8)} (hn:∀ q,q∈ps→a8 q=true):da (bV ps)=ps:=by
 unfold da
 split
 ·rename_i h;exact ((nJ hn).1 h).symm
 ·rename_i h
  have h0:ps≠[]:=fun e=>h ((nJ hn).2 e)
  unfold bV
  rw [if_neg h0]
  cases ps with
  |nil=>exact absurd rfl h0
  | cons p ps=>
    show bK (p++ck ps)=_
    exact wV (nB (hn p (by simp))) fun q hq=>nB (hn q (List.mem_cons_of_mem _ hq))
theorem wM {ps:List (List UInt8)} (hn:∀ q,q∈ps→a8 q=true) (hl:(bV ps).length≤200):bw (bV ps)=true:=by
 unfold bw
 by_cases h0:ps=[]
 ·subst h0;rfl
 ·have e:=gf hn
  unfold da at e
  rw [if_neg (fun h=>h0 ((nJ hn).1 h))] at e
  rw [decide_eq_true hl,Bool.true_and]
  unfold cb
  rw [e,List.all_eq_true.2 hn,Bool.and_true,Bool.or_eq_true,decide_eq_true_eq]
  refine .inr ?_
  rw [decide_eq_true_eq]
  unfold bV
  rw [if_neg h0]
  cases ps with
  |nil=>exact absurd rfl h0
  |cons p ps=>simp [ck]
theorem Aa (ps:List (List UInt8)) (k:Nat):(ck (ps.take k)).length≤(ck ps).length:=by
 have:=ua (ps.take k) (ps.drop k)
 rw [List.take_append_drop] at this
 rw [this,List.length_append];omega
theorem wX {ps:List (List UInt8)} (k:Nat) (h:(bV ps).length≤200):(bV (ps.take k)).length≤200:=by
 have:=Aa ps k
 unfold bV at *
 split at h
 ·rename_i e;subst e;simp
 ·split
  ·simp
  ·omega
def af (s:List UInt8):(List UInt8×List UInt8)×Int:=if bw s=true then (if da s=[] then (([],[]),7) else ((bV ((da s).take ((da s).length-1)),(da s).getD ((da s).length-1) []),0)) else (([],[]),2)
theorem tB {s:List UInt8} (h:¬ bw s=true):af s=(([],[]),2):=by unfold af;rw [if_neg h]
theorem mB:af [47]=(([],[]),7):=by rfl
theorem my {ps:List (List UInt8)} {p:List UInt8} (hn:∀ q,q∈ps++[p]→a8 q=true) (hl:(bV (ps++[p])).length≤200):af (bV (ps++[p]))=((bV ps,p),0):=by
 unfold af
 rw [if_pos (wM hn hl),gf hn,if_neg (by simp),List.length_append,List.length_singleton,Nat.add_sub_cancel,List.take_left']
 ·simp
 ·rfl
theorem mC {s:List UInt8} (h:bw s=true):s=[47]∨∃ ps p,(∀ q,q∈ps++[p]→a8 q=true)∧s=bV (ps++[p])∧(bV (ps++[p])).length≤200∧bV (ps++[p])=ck ps++47::p:=by
 obtain ⟨h1,h2,h3,h4⟩:=iI h
 rcases List.eq_nil_or_concat (da s) with e|⟨ps,p,e⟩
 ·left;rw [h1,e];rfl
 ·right
  rw [List.concat_eq_append] at e
  rw [e] at h1 h2
  refine ⟨ps,p,h2,h1,by rw [←h1];exact h3,?_⟩
  unfold bV
  rw [if_neg (by simp),ua]
  simp [ck]
theorem AK (a b:List UInt8) (c:UInt8):(a++c::b).length=a.length+b.length+1:=by simp;omega
theorem zy (a b:List UInt8) (c d:UInt8) (j:Nat) (h:j<b.length):(a++c::b).getD (a.length+b.length-j) d=b.getD (b.length-1-j) d:=by
 rw [List.getD_eq_getElem?_getD,List.getElem?_append_right (by omega),show a.length+b.length-j-a.length=(b.length-1-j)+1 from by omega,List.getElem?_cons_succ,←List.getD_eq_getElem?_getD]
theorem yo (a b:List UInt8) (c d:UInt8):(a++c::b).getD a.length d=c:=by
 rw [List.getD_eq_getElem?_getD,List.getElem?_append_right (by omega),Nat.sub_self];rfl
theorem IG (a b:List UInt8) (c:UInt8) (hc:c∉b) (hs:okS (a++c::b)):ab Tryz.prog [] 196 [S (a++c::b),.d (.int .u8 c.toNat)] (ret (I a.length)):=by
 unfold okS at hs
 have hlen:=AK a b c
 rw [hlen] at hs
 have hst:((a.length+b.length+1:Nat):Int)-1=((a.length+b.length:Nat):Int):=by omega
 refine zJ Tryz.func196 Tryz.ntmps196 Tryz.results196 ?_;simp only [go_sem]
 (refine zW qw zn @hlen (z1 ?_)<;>(repeat with_reducible intro hc))
 refine AWP.loopS (ι:=Nat) (fun j=>j≤b.length) (fun j=>b.length-j) [0,1] (fun j=>[(5,I ((a.length+b.length-j:Nat):Int))]) 0 ?_ (by simp (disch:=omega) only [go_sem,aa,hst,Nat.sub_zero]) ?_
 ·omega
 intro j hj
 simp only [go_sem]
 (refine zW qw zn @hlen (z2 ?_ ?_)<;>(repeat with_reducible intro hc))
 ·by_cases e:j=b.length
  ·subst e
   exact zEe @Nat.add_sub_cancel
  ·have hlt:j<b.length:=by omega
   rw [zy a b c 0 j hlt] at hc
   exfalso
   have hb:b.getD (b.length-1-j) 0=c:=UInt8.toNat.inj (Int.ofNat_inj.1 hc)
   rw [List.getD_eq_getElem?_getD,List.getElem?_eq_getElem (by omega)] at hb
   have hin:=List.getElem_mem (l:=b) (n:=b.length-1-j) (by omega)
   rw [show b[b.length-1-j]=c from hb] at hin
   exact absurd hin (by assumption)
 ·by_cases e:j=b.length
  ·subst e
   exfalso
   rw [Nat.add_sub_cancel,yo] at hc
   exact hc rfl
  ·refine ⟨j+1,by omega,by omega,?_⟩
   have e1:((a.length+b.length-(j+1):Nat):Int)=((a.length+b.length-j:Nat):Int)-1:=by omega
   rw [e1]
   exact zSm trivial
 all_goals (exfalso;omega)
theorem vW (a b:List UInt8) (c:UInt8) (hc:c∉b) (hs:okS (a++c::b)):ab Tryz.prog [] 136 [S (a++c::b),.d (.int .u8 c.toNat)] (ret (I a.length)):=by
 refine zJ Tryz.func136 Tryz.ntmps136 Tryz.results136 ?_;simp only [go_sem]
 (refine zW qw (z1 (IG a b c hc hs)) trivial (z1 ?_)<;>(repeat with_reducible intro hc))
 exact zEe trivial
theorem split_c (s:List UInt8) (hs:okS s):ab Tryz.prog [] 80 [S s] (ret (.tup [S (af s).1.1,S (af s).1.2,I (af s).2])):=by
 by_cases h:bw s=true
 case neg=>
  rw [tB h]
  refine zJ Tryz.func80 Tryz.ntmps80 Tryz.results80 ?_;simp only [go_sem]
  (refine zW qw (z1 ((good_c s hs).re (congrArg B (eq_false_of_ne_true h)))) trivial (z1 ?_)<;>(repeat with_reducible intro hc))
  exact zEe trivial
 rcases mC h with rfl|⟨ps,p,hn,e,hl,hj⟩
 ·rw [mB]
  refine zJ Tryz.func80 Tryz.ntmps80 Tryz.results80 ?_;simp only [go_sem]
  (refine zW qw (z1 ((good_c [47] hs).re (congrArg B h))) trivial (z1 ?_)<;>(repeat with_reducible intro hc))
  exact zEe trivial
 have hsp:=my hn hl
 rw [←e] at hsp hl
 rw [hsp]
 rw [hj] at e
 have hp:=nB (hn p (by simp))
 have hlen:=AK (ck ps) p 47
 rw [←e] at hlen
 have hp0:p≠[]:=fun h1=>by
  have:=hn p (by simp)
  rw [h1] at this;revert this;decide
 have hpl:=List.length_pos_iff.2 hp0
 have h47:¬ s=[47]:=fun h0=>by
  rw [h0,List.length_singleton] at hlen;omega
 have hlast:ab Tryz.prog [] 136 [S (ck ps++47::p),.d (.int .u8 47)] (ret (I (ck ps).length)):=vW (ck ps) p 47 hp (by rw [←e];exact hs)
 rw [←e] at hlast
 refine zJ Tryz.func80 Tryz.ntmps80 Tryz.results80 ?_;simp only [go_sem]
 (refine zW qw (z2 ((good_c s hs).re (congrArg B h)) hlast) @h47 (z2 ?_ ?_)<;>(repeat with_reducible intro hc))
 ·have e0:ck ps=[]:=List.eq_nil_of_length_eq_zero hc
  have eps:ps=[]:=Decidable.byContradiction fun h=>xo h e0
  have e1:List.take (s.length-1) (List.drop 1 s)=p:=by
   rw [List.take_of_length_le (by simp),e,e0];rfl
  have e2:bV ps=[47]:=by rw [eps];rfl
  rw [e2]
  exact zEe @e1
 ·have eps:ps≠[]:=fun h=>hc (by rw [h];rfl)
  have e1:List.take (s.length-((ck ps).length+1)) (List.drop ((ck ps).length+1) s)=p:=by
   rw [List.take_of_length_le (by simp),e,←List.drop_drop,List.drop_left];rfl
  have e2:bV ps=ck ps:=by unfold bV;rw [if_neg eps]
  have e3:List.take (ck ps).length s=ck ps:=by rw [e,List.take_left]
  have e4:(((ck ps).length:Int)+1).toNat=(ck ps).length+1:=by omega
  rw [e2]
  exact zEe (zx @e4 (zx @e1 (zx @e3 @Nat.sub_zero)))
def aK (t:ATree):List (List UInt8):=t.nodes.map ANode.path
def nd (t:ATree) (k:Nat):ANode:=t.nodes.getD k default
def ey (l:List Int) (k:Nat):Prop:=1≤l.getD k default∧l.getD k default≤2147483647∧(0<k→l.getD (k-1) default<l.getD k default)
instance (l:List Int) (k:Nat):Decidable (ey l k):=by unfold ey;infer_instance
def lF (t:ATree) (k:Nat):Prop:=bw (nd t k).path=true∧(nd t k).data.length≤256∧(0<k→(nd t (k-1)).path<(nd t k).path)
instance (t:ATree) (k:Nat):Decidable (lF t k):=by unfold lF;infer_instance
def qM (t:ATree) (s:AStat):Prop:=0≤s.version∧s.version≤2147483647∧0≤s.cversion∧s.cversion≤2147483647∧0≤s.czxid∧s.czxid≤s.mzxid∧s.czxid≤s.pzxid∧s.mzxid≤t.zxid∧s.pzxid≤t.zxid
instance (t:ATree) (s:AStat):Decidable (qM t s):=by unfold qM;infer_instance
def sh (t:ATree) (s:AStat):Prop:=s.owner≠0→s.owner∈t.sessions∧s.kids=0
instance (t:ATree) (s:AStat):Decidable (sh t s):=by unfold sh;infer_instance
def rV (t:ATree) (k:Nat):List UInt8:=(af (nd t k).path).1.1
def kidsN (t:ATree) (p:List UInt8) (n:Nat):Nat:=((List.range n).filter fun j=>decide (rV t j=p)).length
def upB (t:ATree) (k:Nat):Prop:=k=0∨rV t k∈aK t
instance (t:ATree) (k:Nat):Decidable (upB t k):=by unfold upB;infer_instance
def iw (t:ATree):Prop:=1≤t.nodes.length∧t.nodes.length≤400∧(nd t 0).path=[47]∧(nd t 0).stat.owner=0∧bR t.zxid
instance (t:ATree):Decidable (iw t):=by unfold iw;infer_instance
def aI (t:ATree):Bool:=decide (iw t∧(∀ k,k<t.sessions.length→ey t.sessions k)∧(∀ k,k<t.nodes.length→lF t k)∧
 ∀ k,k<t.nodes.length→qM t (nd t k).stat∧sh t (nd t k).stat∧upB t k∧(nd t k).stat.kids=kidsN t (nd t k).path t.nodes.length)
theorem bq {t:ATree}:aI t=true↔iw t∧(∀ k,k<t.sessions.length→ey t.sessions k)∧(∀ k,k<t.nodes.length→lF t k)∧
  ∀ k,k<t.nodes.length→qM t (nd t k).stat∧sh t (nd t k).stat∧upB t k∧(nd t k).stat.kids=kidsN t (nd t k).path t.nodes.length:=by unfold aI;rw [decide_eq_true_eq]
theorem aU (t:ATree) (k:Nat):(aK t).getD k []=(nd t k).path:=fM ANode.path t.nodes k default
theorem aQ (t:ATree):(aK t).length=t.nodes.length:=by unfold aK;simp
theorem l0 {l:List Int} (h:∀ k,k<l.length→ey l k):e9 l:=fun k hk=>by
 have:=(h (k+1) (by omega)).2.2 (by omega)
 simpa using this
theorem wT {t:ATree} (h:∀ k,k<t.nodes.length→lF t k):aV (aK t):=fun k hk=>by
 rw [aQ] at hk
 have:=(h (k+1) hk).2.2 (by omega)
 rw [aU,aU]
 simpa using this
theorem aZ {t:ATree} (h:aI t=true):aV (aK t):=wT (bq.1 h).2.2.1
theorem je {t:ATree} (h:aI t=true):e9 t.sessions:=l0 (bq.1 h).2.1
theorem db {t:ATree} (h:aI t=true):iw t:=(bq.1 h).1
theorem findU_c (t:ATree) (key:List UInt8) (h:t.nodes.length*88≤140737488351232):ab Tryz.prog [] 74 [t.av,S key] (ret (.tup [I (bsN (aK t) key),B (gz (aK t) key)])):=by
 unfold aK
 refine zJ Tryz.func74 Tryz.ntmps74 Tryz.results74 ?_;simp only [go_sem]
 (refine zW qw (z1 (BZ t.nodes key h)) trivial (z1 ?_)<;>(repeat with_reducible intro hc))
 exact zEe trivial
theorem vp (t:ATree) (key:List UInt8) (h:t.nodes.length*88≤140737488351232) (hr:aV (aK t)):ab Tryz.prog [] 74 [t.av,S key] (ret (.tup [I (place (aK t) key),B (decide (key∈aK t))])):=by
 have:=findU_c t key h
 rwa [sH hr,mZ hr] at this
theorem open_c (t:ATree) (s:Int) (h:t.sessions.length*8≤140737488351232) (hr:e9 t.sessions):ab Tryz.prog [] 79 [t.av,I s] (ret (B (decide (s∈t.sessions)))):=by
 refine zJ Tryz.func79 Tryz.ntmps79 Tryz.results79 ?_;simp only [go_sem]
 (refine zW qw (z1 (uo t.sessions s h hr)) trivial (z1 ?_)<;>(repeat with_reducible intro hc))
 exact zEe trivial
def aX (t:ATree) (key:List UInt8):ANode×Int:=if key∈aK t then (nd t (place (aK t) key),0) else (default,7)
theorem jg (t:ATree) (key:List UInt8) (h:t.nodes.length*88≤140737488351232) (hr:aV (aK t)):ab Tryz.prog [] 43 [t.av,S key] (ret (.tup [(aX t key).1.av,I (aX t key).2])):=by
 by_cases hm:key∈aK t
 ·have hp:=(ao hr hm).1
  rw [aQ] at hp
  unfold aX
  rw [if_pos hm]
  refine zJ Tryz.func43 Tryz.ntmps43 Tryz.results43 ?_;simp only [go_sem]
  (refine zW qw (z1 ((vp t key h hr).re (by rw [decide_eq_true hm]))) trivial (z1 ?_)<;>(repeat with_reducible intro hc))
  exact zEe @nd.eq_1
 ·unfold aX
  rw [if_neg hm]
  refine zJ Tryz.func43 Tryz.ntmps43 Tryz.results43 ?_;simp only [go_sem]
  (refine zW qw (z1 ((vp t key h hr).re (by rw [decide_eq_false hm]))) trivial (z1 ?_)<;>(repeat with_reducible intro hc))
  exact zEe dfl
def t00:ATree:=⟨0,[⟨[47],[],⟨0,0,0,0,0,0,0⟩⟩],[]⟩
theorem JR:ab Tryz.prog [] 31 [] (ret t00.av):=by
 refine zJ Tryz.func31 Tryz.ntmps31 Tryz.results31 ?_;simp only [go_sem]
 (refine zW qw zn trivial (z1 ?_)<;>(repeat with_reducible intro hc))
 exact zEe @t00.eq_1
theorem wq {t:ATree} (hw:t.wf) (k:Nat):okS (t.nodes.getD k default).path∧okS (t.nodes.getD k default).data:=by
 by_cases e:k<t.nodes.length
 ·have:=hw.2.1.2 _ (bU t.nodes k e)
  exact ⟨this.1,this.2.1⟩
 ·rw [List.getD_eq_getElem?_getD,List.getElem?_eq_none (by omega)];exact ⟨show okS [] by unfold okS;decide,show okS [] by unfold okS;decide⟩
theorem EV {s:List UInt8} (h:(af s).2=0):(af s).1.1≠[]:=by
 unfold af at h ⊢
 split at h
 ·rename_i hg
  split at h
  ·cases h
  ·rename_i h0
   rw [if_pos hg,if_neg h0]
   show bV _≠[]
   unfold bV
   split
   ·decide
   ·rename_i h1;exact xo h1
 ·cases h
theorem C6 {s:List UInt8} (h:¬ (af s).2=0):(af s).1.1=[]:=by
 unfold af at h ⊢
 split at h
 ·rename_i hg
  split at h
  ·rename_i h0;rw [if_pos hg,if_pos h0]
  ·exact absurd rfl h
 ·rename_i hg;rw [if_neg hg]
theorem v8 {s:List UInt8} (h:bw s=true):s≠[]:=by rintro rfl;revert h;decide
theorem lV (t:ATree) (p:List UInt8) (k:Nat):kidsN t p (k+1)=kidsN t p k+if rV t k=p then 1 else 0:=by
 unfold kidsN
 rw [List.range_succ,List.filter_append,List.length_append]
 by_cases e:rV t k=p
 ·rw [if_pos e,List.filter_cons_of_pos (by simpa using e)];rfl
 ·rw [if_neg e,List.filter_cons_of_neg (by simpa using e)];rfl
theorem GE (t:ATree) (p:List UInt8) (k:Nat):kidsN t p k≤k:=by
 unfold kidsN
 exact Nat.le_trans (List.length_filter_le _ _) (by rw [List.length_range];exact Nat.le_refl _)
theorem iU {t:ATree} (h:aI t=true→False):aI t=false:=by
 cases e:aI t
 ·rfl
 ·exact (h e).elim
theorem A2 {t:ATree} (h:¬ iw t):false=aI t:=(iU fun h2=>h (db h2)).symm
theorem H0 {t:ATree} {k:Nat} (hk:k<t.sessions.length) (h:¬ ey t.sessions k):false=aI t:=(iU fun h2=>h ((bq.1 h2).2.1 k hk)).symm
theorem wg {t:ATree} {k:Nat} (hk:k<t.nodes.length) (h:¬ (qM t (nd t k).stat∧sh t (nd t k).stat∧upB t k∧(nd t k).stat.kids=kidsN t (nd t k).path t.nodes.length)):false=aI t:=(iU fun h2=>h ((bq.1 h2).2.2.2 k hk)).symm
def Fs (t:ATree) (i:Nat):Prop:=((((((((((bw (nd t i).path=true∧((nd t i).data.length:Int)≤256)∧((i:Int)≤0∨(nd t (i-1)).path<(nd t i).path))∧0≤(nd t i).stat.version)∧(nd t i).stat.version≤2147483647)∧0≤(nd t i).stat.cversion)∧(nd t i).stat.cversion≤2147483647)∧
 0≤(nd t i).stat.czxid)∧(nd t i).stat.czxid≤(nd t i).stat.mzxid)∧(nd t i).stat.czxid≤(nd t i).stat.pzxid)∧(nd t i).stat.mzxid≤t.zxid)∧(nd t i).stat.pzxid≤t.zxid
theorem xL {t:ATree} {i:Nat} (h:Fs t i):lF t i∧qM t (nd t i).stat:=by
 obtain ⟨⟨⟨⟨⟨⟨⟨⟨⟨⟨⟨h1,h2⟩,h3⟩,h4⟩,h5⟩,h6⟩,h7⟩,h8⟩,h9⟩,h10⟩,h11⟩,h12⟩:=h
 exact ⟨⟨h1,by omega,fun h0=>h3.resolve_left (by omega)⟩,h4,h5,h6,h7,h8,h9,h10,h11,h12⟩
theorem HJ {s:List UInt8} (hg:bw s=true) (h:¬ (af s).2=0):s=[47]:=by
 unfold af at h
 rw [if_pos hg] at h
 split at h
 ·rename_i h0
  have:=(iI hg).1
  rw [h0] at this;exact this
 ·exact absurd rfl h
theorem rA {t:ATree}:∀ {i:Nat},(∀ j,j≤i→lF t j)→0<i→(nd t 0).path<(nd t i).path
 |0,_,h=>by omega
 | i+1,h,_=>by
   have:=(h (i+1) (Nat.le_refl _)).2.2 (by omega)
   rw [Nat.add_sub_cancel] at this
   by_cases e:i=0
   ·subst e;exact this
   ·exact List.lt_trans (rA (fun j hj=>h j (by omega)) (by omega)) this
theorem Ju {t:ATree} {i:Nat} (hh:iw t) (hA:∀ j,j≤i→lF t j) (he:¬ (af (nd t i).path).2=0):upB t i:=by
 by_cases e:i=0
 ·exact .inl e
 ·have h1:=rA hA (by omega)
  rw [HJ (hA i (Nat.le_refl _)).1 he,hh.2.2.1] at h1
  exact absurd h1 (List.lt_irrefl _)
theorem JQ {t:ATree} {i:Nat} (hi:i<t.nodes.length) (h0:(af (nd t i).path).2=0) (h:gz (aK t) (af (nd t i).path).1.1=false):false=aI t:=by
 refine (iU fun h2=>?_).symm
 rw [mZ (aZ h2),decide_eq_false_iff_not] at h
 rcases ((bq.1 h2).2.2.2 i hi).2.2.1 with e|e
 ·subst e
  rw [(db h2).2.2.1] at h0
  exact absurd h0 (by decide)
 ·exact h e
theorem Kb {t:ATree} {i:Nat} (hi:i<t.nodes.length) (h0:¬ (nd t i).stat.owner=0) (h:¬ (nd t i).stat.owner∈t.sessions∨¬ (nd t i).stat.kids=0):false=aI t:=
 wg hi fun ⟨_,ho,_,_⟩=>by
  obtain ⟨a,b⟩:=ho h0
  rcases h with h|h
  ·exact h a
  ·exact h b
structure TLoop (t:ATree) (i:Nat) (m:List (List UInt8×Int)):Prop where
 le:i≤t.nodes.length
 ok:∀ j,j<i→lF t j∧qM t (nd t j).stat∧sh t (nd t j).stat∧upB t j
 cnt:∀ p,p≠[]→jz m p=(kidsN t p i:Nat)
theorem AJ {t:ATree} {i:Nat} {m:List (List UInt8×Int)} (h:TLoop t i m) (hi:i<t.nodes.length) (hc:Fs t i) (ho:sh t (nd t i).stat) (h0:(af (nd t i).path).2=0) (hf:gz (aK t) (af (nd t i).path).1.1=true) :
  TLoop t (i+1) (mset m (af (nd t i).path).1.1 (jz m (af (nd t i).path).1.1+1)):=by
 refine ⟨by omega,fun j hj=>?_,fun p hp=>?_⟩
 ·by_cases e:j=i
  ·subst e;obtain ⟨a,b⟩:=xL hc;exact ⟨a,b,ho,.inr (y4 hf)⟩
  ·exact h.ok j (by omega)
 ·have:=Dr m (af (nd t i).path).1.1 p
  unfold Gw at this
  rw [this,h.cnt p hp,lV]
  by_cases e:p=(af (nd t i).path).1.1
  ·rw [if_pos e,if_pos (show rV t i=p from e.symm)];omega
  ·rw [if_neg e,if_neg (show ¬ rV t i=p from fun e2=>e e2.symm)];omega
theorem A0 {t:ATree} {i:Nat} {m:List (List UInt8×Int)} (h:TLoop t i m) (hh:iw t) (hi:i<t.nodes.length) (hc:Fs t i) (ho:sh t (nd t i).stat) (h0:¬ (af (nd t i).path).2=0):TLoop t (i+1) m:=by
 obtain ⟨a,b⟩:=xL hc
 have hA:∀ j,j≤i→lF t j:=fun j hj=>by
  by_cases e:j=i
  ·subst e;exact a
  ·exact (h.ok j (by omega)).1
 refine ⟨by omega,fun j hj=>?_,fun p hp=>?_⟩
 ·by_cases e:j=i
  ·subst e;exact ⟨a,b,ho,Ju hh hA h0⟩
  ·exact h.ok j (by omega)
 ·rw [h.cnt p hp,lV,if_neg (show ¬ rV t i=p from fun e2=>hp (e2.symm.trans (C6 h0)))];rfl
theorem Bb {t:ATree} {i:Nat} {m:List (List UInt8×Int)} (h:TLoop t i m) (h4:t.nodes.length≤400) (h0:(af (nd t i).path).2=0):IntKind.i64.wrap (jz m (af (nd t i).path).1.1+1)=jz m (af (nd t i).path).1.1+1:=by
 have a:=h.cnt _ (EV h0)
 have b:=GE t (af (nd t i).path).1.1 i
 have c:=h.le
 simp [IntKind.wrap,IntKind.bits,IntKind.signed];omega
theorem A8 {t:ATree} {i:Nat} (h:(nd t i).stat.owner∈t.sessions∧(nd t i).stat.kids=0):sh t (nd t i).stat:=fun _=>h
theorem wU {t:ATree} {i:Nat} (h:(nd t i).stat.owner=0):sh t (nd t i).stat:=fun h2=>absurd h h2
theorem Cv {t:ATree} {m:List (List UInt8×Int)} (hh:iw t) (hs:∀ j,j<t.sessions.length→ey t.sessions j) (h:TLoop t t.nodes.length m) (hk:∀ j,j<t.nodes.length→(nd t j).stat.kids=jz m (nd t j).path):aI t=true:=by
 refine bq.2 ⟨hh,hs,fun k hk=>(h.ok k hk).1,fun k hk2=>?_⟩
 obtain ⟨a,b,c,d⟩:=h.ok k hk2
 refine ⟨b,c,d,?_⟩
 rw [hk k hk2,h.cnt _ (v8 a.1)]
theorem Ip {t:ATree} {m:List (List UInt8×Int)} {k:Nat} (h:TLoop t t.nodes.length m) (hk:k<t.nodes.length) (hc:¬ (nd t k).stat.kids=jz m (nd t k).path):false=aI t:=
 wg hk fun ⟨_,_,_,h2⟩=>hc (by rw [h2,h.cnt _ (v8 (h.ok k hk).1.1)])
set_option maxHeartbeats 8000000 in
theorem jn (t:ATree) (hw:t.wf):ab Tryz.prog [] 34 [t.av] (ret (B (aI t))):=by
 have hok:=wq hw
 obtain ⟨hz,⟨hn,hnw⟩,⟨hs,hsw⟩⟩:=hw
 refine zJ Tryz.func34 Tryz.ntmps34 Tryz.results34 ?_;simp only [go_sem]
 (repeat' first
|(with_reducible refine AR.f ?_)
|refine ap (by decide) ?_
|(with_reducible refine AWP.cond rfl ?_ ?_<;>intro hc<;>(try simp only [hcs,beq_iff_eq,ge_iff_le,gt_iff_lt] at hc))
|((first|((first|(with_reducible first|refine zR ?_|refine zQ (by decide +kernel) ?_|refine zD (by decide +kernel) ?_|refine zE (by decide +kernel) ?_|refine zG (by decide +kernel) ?_));intro K hK)|((first|refine zA (zgood_c t.zxid) ?_ ?_ ?_ ?_ ?_);(focus exact rfl);(focus exact rfl);iterate 2 (focus ((try simp (disch:=omega) only [go_sem,aa])<;>(try omega)<;>fail)))|((first|refine zX (zgood_c t.zxid) rfl ?_ ?_);(focus ((try simp (disch:=omega) only [go_sem,aa])<;>(try omega)<;>fail)))|((first|(with_reducible refine aunder_i ?_ ?_<;>intro hg)|with_reducible intro hg)<;>(first|(exfalso;simp at hg;done)|(have hg':=hg;(try simp only [hcs,beq_iff_eq,ge_iff_le,gt_iff_lt] at hg');(try simp only [hg])))))<;>(try simp (disch:=omega) only [go_sem,aa])<;>(repeat' with_reducible refine And.intro ?_ ?_)<;>(try (with_reducible refine hK _ ?_;clear hK K)))
|omega)
 ·(refine zE2 trivial ?_;(try simp (disch:=omega) only [go_sem,aa,I,B,S,zj]))
  refine A2 fun ⟨a1,a2,a3,a4,a5⟩=>?_
  rcases hc with (((h|h)|h)|h)|h
  ·omega
  ·omega
  ·exact h a3
  ·exact h a4
  ·exact h a5
 rotate_left
 ·simp_all
 ·(refine zE2 trivial ?_;(try simp (disch:=omega) only [go_sem,aa,I,B,S,zj]))
  refine A2 fun ⟨a1,a2,a3,a4,a5⟩=>?_
  rcases hg' with ((h|h)|h)|h
  ·omega
  ·omega
  ·exact h a3
  ·exact h a4
 have hhead:iw t:=⟨by omega,by omega,hc.1.1.2,hc.1.2,hc.2⟩
 have h400:t.nodes.length≤400:=by omega
 clear hc hg
 refine AWP.loopS (ι:=Nat) (fun k=>k≤t.sessions.length∧∀ j,j<k→ey t.sessions j) (fun k=>t.sessions.length-k) [1,50,51] (fun k=>[(52,I k)]) 0 ?_ (by simp (disch:=omega) only [go_sem,aa,true_and]) ?_
 ·exact ⟨by omega,fun j hj=>by omega⟩
 intro k ⟨hk,hk2⟩
 simp only [go_sem]
 (refine zW qw zn @lr (z3 ?_ ?_ ?_)<;>(repeat with_reducible intro hc))
 ·(refine zE2 trivial ?_;(try simp (disch:=omega) only [go_sem,aa,I,B,S,zj]))
  refine H0 (k:=k) (by omega) fun ⟨a1,a2,a3⟩=>?_
  rcases hc with (h|h)|h
  ·omega
  ·omega
  ·exact absurd (a3 (by omega)) (by omega)
 ·refine ⟨k+1,⟨by omega,fun j hj=>?_⟩,by omega,?_⟩
  ·by_cases e:j=k
   ·subst e;exact ⟨hc.1.1,hc.1.2,fun h0=>hc.2.resolve_left (by omega)⟩
   ·exact hk2 j (by omega)
  exact zSm trivial
 have hss:∀ j,j<t.sessions.length→ey t.sessions j:=fun j hj=>hk2 j (by omega)
 have hri:=l0 hss
 clear hk2 hk hc
 refine AWP.loopB (ι:=Nat×List (List UInt8×Int)) (fun v=>TLoop t v.1 v.2) (fun v=>t.nodes.length-v.1) [1,5,80,81] (fun v=>[(82,I v.1)]) (fun v=>[.cells [.d (.int .i64 t.zxid),.d (.sl 9 (t.nodes.map ANode.row)),.d (.sl 1 (t.sessions.map cU))],.map v.2]) (0,[]) ?_ ?_ ?_
 ·exact ⟨by simp,fun j hj=>by simp at hj,fun p hp=>rfl⟩
 ·simp only [go_sem];exact zSm trivial
 intro ⟨i,m⟩ hT
 simp only at hT
 have hokk:=(hok i).1
 have hokd:=(hok i).2
 have hle:=hT.le
 simp only [go_sem]
 (repeat' first
|(with_reducible refine AR.f ?_)
|refine ap (by decide) ?_
|(with_reducible refine AWP.cond rfl ?_ ?_<;>intro hc<;>(try simp only [hcs,beq_iff_eq,ge_iff_le,gt_iff_lt] at hc))
|((first|((first|(with_reducible first|refine zR ?_|refine zQ (by decide +kernel) ?_|refine zD (by decide +kernel) ?_|refine zE (by decide +kernel) ?_|refine zG (by decide +kernel) ?_));intro K hK)|((first|refine acallH_sc (good_c _ hokk) rfl rfl ?_ ?_ ?_|refine acallQ_sc (good_c _ hokk) rfl rfl ?_ ?_ ?_|refine acallH_sc (open_c t _ hs hri) rfl rfl ?_ ?_ ?_|refine acallQ_sc (open_c t _ hs hri) rfl rfl ?_ ?_ ?_|refine acallH_sc (split_c _ hokk) rfl rfl ?_ ?_ ?_|refine acallQ_sc (split_c _ hokk) rfl rfl ?_ ?_ ?_|refine acallH_sc (findU_c t _ hn) rfl rfl ?_ ?_ ?_|refine acallQ_sc (findU_c t _ hn) rfl rfl ?_ ?_ ?_);iterate 2 (focus ((try simp (disch:=omega) only [go_sem,aa,lr,kz,List.append_eq])<;>(try omega)<;>fail)))|((first|refine zX (good_c _ hokk) rfl ?_ ?_|refine zX (open_c t _ hs hri) rfl ?_ ?_|refine zX (split_c _ hokk) rfl ?_ ?_|refine zX (findU_c t _ hn) rfl ?_ ?_);(focus ((try simp (disch:=omega) only [go_sem,aa,lr,kz,List.append_eq])<;>(try omega)<;>fail)))|((first|(with_reducible refine aunder_i ?_ ?_<;>intro hg)|with_reducible intro hg)<;>(first|(exfalso;simp at hg;done)|(have hg':=hg;(try simp only [hcs,beq_iff_eq,ge_iff_le,gt_iff_lt] at hg');(try simp only [hg])))))<;>(try simp (disch:=omega) only [go_sem,aa,lr,kz,List.append_eq])<;>(repeat' with_reducible refine And.intro ?_ ?_)<;>(try (with_reducible refine hK _ ?_;clear hK K)))
|omega)
 ·(refine zE2 trivial ?_;(try simp (disch:=omega) only [go_sem,aa,I,B,S,zj]))
  refine (iU fun h2=>?_).symm
  obtain ⟨a1,a2,a3⟩:=(bq.1 h2).2.2.1 i (by assumption)
  obtain ⟨b1,b2,b3,b4,b5,b6,b7,b8,b9⟩:=((bq.1 h2).2.2.2 i (by assumption)).1
  unfold nd at a1 a2 a3 b1 b2 b3 b4 b5 b6 b7 b8 b9
  rcases hc with ((((((((((h|h)|h)|h)|h)|h)|h)|h)|h)|h)|h)|h
  ·rw [a1] at h;cases h
  ·omega
  ·exact h.2 (a3 (by omega))
  all_goals omega
 ·(refine zE2 trivial ?_;(try simp (disch:=omega) only [go_sem,aa,I,B,S,zj]))
  exact Kb (i:=i) (by assumption) hg' hc
 ·(refine zE2 trivial ?_;(try simp (disch:=omega) only [go_sem,aa,I,B,S,zj]))
  exact JQ (i:=i) (by assumption) (by assumption) hc
 ·refine ⟨(i+1,_),AJ hT (by assumption) (by assumption) (A8 (by assumption)) (by assumption) hc,by simp only;omega,?_⟩
  have hw1:=Bb hT h400 (by assumption)
  unfold nd at hw1 ⊢
  exact zFr [0,1] @hw1
 ·refine ⟨(i+1,m),A0 hT hhead (by assumption) (by assumption) (A8 (by assumption)) hc,by simp only;omega,?_⟩
  exact zFr [0,1] trivial
 ·(refine zE2 trivial ?_;(try simp (disch:=omega) only [go_sem,aa,I,B,S,zj]))
  exact JQ (i:=i) (by assumption) (by assumption) hc
 ·refine ⟨(i+1,_),AJ hT (by assumption) (by assumption) (wU hg') (by assumption) hc,by simp only;omega,?_⟩
  have hw1:=Bb hT h400 (by assumption)
  unfold nd at hw1 ⊢
  exact zFr [0,1] @hw1
 ·refine ⟨(i+1,m),A0 hT hhead (by assumption) (by assumption) (wU hg') hc,by simp only;omega,?_⟩
  exact zFr [0,1] trivial
 obtain rfl:i=t.nodes.length:=by omega
 clear hc
 refine AWP.loopB (ι:=Nat) (fun k=>k≤t.nodes.length∧∀ j,j<k→(nd t j).stat.kids=jz m (nd t j).path) (fun k=>t.nodes.length-k) [5,206,207] (fun k=>[(208,I k)]) (fun k=>[.cells [.d (.int .i64 t.zxid),.d (.sl 9 (t.nodes.map ANode.row)),.d (.sl 1 (t.sessions.map cU))],.map m]) 0 ?_ ?_ ?_
 ·exact ⟨by omega,fun j hj=>by omega⟩
 ·simp only [go_sem];exact zSm trivial
 intro j ⟨hj,hj2⟩
 simp only [go_sem]
 (refine zW qw zn trivial (z3 ?_ ?_ ?_)<;>(repeat with_reducible intro hc))
 ·(refine zE2 trivial ?_;(try simp (disch:=omega) only [go_sem,aa,I,B,S,zj]))
  exact Ip (k:=j) hT (by assumption) hc
 ·refine ⟨j+1,⟨by omega,fun q hq=>?_⟩,by omega,?_⟩
  ·by_cases e:q=j
   ·subst e;exact hc
   ·exact hj2 q (by omega)
  exact zFr [0,1] trivial
 ·(refine zE2 trivial ?_;(try simp (disch:=omega) only [go_sem,aa,I,B,S,zj]))
  exact (Cv hhead hss hT (fun q hq=>hj2 q (by omega))).symm
theorem nD:aI t00=true:=by decide +kernel
theorem qTw0:Pls [Plan.takes [0,1,3] (.fork 2 (Plan.takes [4,6,5,7,8,9] .done) 4 (Plan.takes [2,6,5,7,8,9] .done))]:=pls _
attribute [go_sem] Tryz.ntmps76 Tryz.results76
def nQ (t:ATree) (x:ATxn) (there:Int):Int:=
 if there=0 then 8 else if ¬ (aX t (af x.path).1.1).2=0 then (aX t (af x.path).1.1).2 else if ¬ (aX t (af x.path).1.1).1.stat.owner=0 then 11
 else if ¬ x.owner=0∧¬ x.owner=x.session then 12 else if 400≤t.nodes.length then 6 else 0
theorem HZ (t:ATree) (x:ATxn) (there:Int) (h:t.nodes.length*88≤140737488351232) (hp:okS x.path) (hr:aV (aK t)):ab Tryz.prog [] 120 [t.av,x.av,.d (.int .i64 there)] (ret (I (nQ t x there))):=by
 unfold nQ
 refine zJ Tryz.func120 Tryz.ntmps120 Tryz.results120 ?_;simp only [go_sem]
 (refine zW qw (z2 (split_c x.path hp) (jg t (af x.path).1.1 h hr)) trivial (zc ?_ (zc ?_ (z4 ?_ ?_ ?_ ?_)))<;>(repeat with_reducible intro hc))
 all_goals (refine zE2 trivial ?_;(try simp (disch:=omega) only [go_sem,aa,I,B,S,zj]))
 all_goals first|(simp [*];done)|(simp only [*,not_true_eq_false,not_false_eq_true,if_true,if_false];split<;>first|rfl|omega|(exfalso;rename_i h;revert h;simp_all;done)|(exfalso;omega))|skip
def cS (t:ATree) (x:ATxn):Int:=
 if aI t=false then 3 else if ¬ aN x=0 then aN x else if x.zxid≤t.zxid then 13
 else if x.op=1 then (if x.session∈t.sessions then 8 else 0)
 else if ¬ x.session∈t.sessions then 12
 else if x.op=3 then nQ t x (aX t x.path).2
 else if x.op=4 then (if (aX t x.path).2=0∧0<(aX t x.path).1.stat.kids then 10 else (aX t x.path).2)
 else if x.op=5 then (if (aX t x.path).2=0∧¬ x.version=(aX t x.path).1.stat.version+1 then 9 else (aX t x.path).2)
 else 0
set_option maxHeartbeats 4000000 in
theorem lw (t:ATree) (x:ATxn) (hw:t.wf) (hp:okS x.path) (hd:okS x.data):ab Tryz.prog [] 67 [t.av,x.av] (ret (I (cS t x))):=by
 obtain ⟨h1,h2⟩:t.nodes.length*88≤140737488351232∧t.sessions.length*8≤140737488351232:=⟨hw.2.1.1,hw.2.2.1⟩
 unfold cS
 by_cases hg:aI t=true
 ·have hr:=aZ hg
  have hri:=je hg
  have hv:-1000≤(aX t x.path).1.stat.version∧(aX t x.path).1.stat.version≤2147483647:=by
   unfold aX;split
   ·rename_i hm
    have hpl:=(ao hr hm).1
    rw [aQ] at hpl
    obtain ⟨b1,b2,_⟩:=((bq.1 hg).2.2.2 _ hpl).1
    exact ⟨by simp only;omega,b2⟩
   ·exact ⟨by decide,by decide⟩
  refine zJ Tryz.func67 Tryz.ntmps67 Tryz.results67 ?_;simp only [go_sem]
  (refine zW qw (zc ((jn t hw).re (congrArg B hg)) (z4 (pM x hp hd) (open_c t x.session h2 hri) (jg t x.path h1 hr) (HZ t x _ h1 hp hr))) trivial (zc ?_ (zc ?_ (zc ?_ (zc ?_ (zc ?_ (zc ?_ (zc ?_ (z4 ?_ ?_ ?_ ?_))))))))<;>(repeat with_reducible intro hc))
  all_goals (refine zE2 trivial ?_;(try simp (disch:=omega) only [go_sem,aa,I,B,S,zj]))
  all_goals (repeat' split)
  all_goals first|rfl|(exfalso;omega)|(exfalso;simp_all;done)
 ·have hg2:aI t=false:=by simpa using hg
  refine zJ Tryz.func67 Tryz.ntmps67 Tryz.results67 ?_;simp only [go_sem]
  (refine zW qw (z1 ((jn t hw).re (congrArg B hg2))) trivial (z1 ?_)<;>(repeat with_reducible intro hc))
  all_goals (refine zE2 trivial ?_;(try simp (disch:=omega) only [go_sem,aa,I,B,S,zj]))
  rw [if_pos hg2]
theorem vK (l:List ANode) (h:l.length*88≤140737488351232):ab Tryz.prog [] 121 [.d (.sl 9 (l.map ANode.row))] (own 9 (l.map ANode.row)):=by
 refine zJ Tryz.func121 Tryz.ntmps121 Tryz.results121 ?_;simp only [go_sem]
 (repeat' first
|(with_reducible refine AR.f ?_)
|refine ap (by decide) ?_
|(with_reducible refine AWP.cond rfl ?_ ?_<;>intro hc<;>(try simp only [hcs,beq_iff_eq,ge_iff_le,gt_iff_lt] at hc))
|((first|((first|(with_reducible first|refine zR ?_|refine zQ (by decide +kernel) ?_|refine zD (by decide +kernel) ?_|refine zE (by decide +kernel) ?_|refine zG (by decide +kernel) ?_));intro K hK)|((first|(with_reducible refine aunder_i ?_ ?_<;>intro hg)|with_reducible intro hg)<;>(first|(exfalso;simp at hg;done)|(have hg':=hg;(try simp only [hcs,beq_iff_eq,ge_iff_le,gt_iff_lt] at hg');(try simp only [hg])))))<;>(try simp (disch:=omega) only [go_sem,aa])<;>(repeat' with_reducible refine And.intro ?_ ?_)<;>(try (with_reducible refine hK _ ?_;clear hK K)))
|omega)
 ·have e:l.length=0:=by
   rcases Nat.eq_zero_or_pos l.length with h0|h0
   ·exact h0
   ·rw [hg h0] at hc;simp at hc
  rw [fu e]
  (refine kN (by first|exact .inl rfl|exact .inr rfl) rfl ?_ ?_<;>simp (disch:=omega) only [go_sem,aa])
 ·(refine kB 1 (by first|exact .inl rfl|exact .inr rfl) rfl ?_ rfl rfl ?_<;>(try simp (disch:=omega) only [go_sem,aa,List.length_map]))
theorem zz (l:List Int) (h:l.length*8≤140737488351232):ab Tryz.prog [] 122 [.d (.sl 1 (l.map cU))] (own 1 (l.map cU)):=by
 refine zJ Tryz.func122 Tryz.ntmps122 Tryz.results122 ?_;simp only [go_sem]
 (repeat' first
|(with_reducible refine AR.f ?_)
|refine ap (by decide) ?_
|(with_reducible refine AWP.cond rfl ?_ ?_<;>intro hc<;>(try simp only [hcs,beq_iff_eq,ge_iff_le,gt_iff_lt] at hc))
|((first|((first|(with_reducible first|refine zR ?_|refine zQ (by decide +kernel) ?_|refine zD (by decide +kernel) ?_|refine zE (by decide +kernel) ?_|refine zG (by decide +kernel) ?_));intro K hK)|((first|(with_reducible refine aunder_i ?_ ?_<;>intro hg)|with_reducible intro hg)<;>(first|(exfalso;simp at hg;done)|(have hg':=hg;(try simp only [hcs,beq_iff_eq,ge_iff_le,gt_iff_lt] at hg');(try simp only [hg])))))<;>(try simp (disch:=omega) only [go_sem,aa])<;>(repeat' with_reducible refine And.intro ?_ ?_)<;>(try (with_reducible refine hK _ ?_;clear hK K)))
|omega)
 ·have e:l.length=0:=by
   rcases Nat.eq_zero_or_pos l.length with h0|h0
   ·exact h0
   ·rw [hg h0] at hc;simp at hc
  rw [fu e]
  (refine kN (by first|exact .inl rfl|exact .inr rfl) rfl ?_ ?_<;>simp (disch:=omega) only [go_sem,aa])
 ·(refine kB 1 (by first|exact .inl rfl|exact .inr rfl) rfl ?_ rfl rfl ?_<;>(try simp (disch:=omega) only [go_sem,aa,List.length_map]))
theorem iX (t:ATree) (h:t.nodes.length*88≤140737488351232) (h2:t.sessions.length*8≤140737488351232):ab Tryz.prog [] 68 [t.av] (cY (.agg [I t.zxid,.osl 0 9 0 t.nodes.length,.osl 1 1 0 t.sessions.length]) [.rows 9 (t.nodes.map ANode.row),.rows 1 (t.sessions.map cU)]):=by
 refine zJ Tryz.func68 Tryz.ntmps68 Tryz.results68 ?_;simp only [go_sem]
 (refine zW qw (z3 qTw0 (vK _ h) (zz _ h2)) trivial (z2 ?_ ?_)<;>(repeat with_reducible intro hc))
 all_goals (refine zO ?_ ?_;(focus ((try simp (disch:=omega) only [go_sem,aa])<;>fail));simp (disch:=omega) only [go_sem,aa];refine ag.of_simp ?_ (ag.same ⟨rfl,rfl⟩);refine zV [2,3] rfl rfl rfl rfl ?_ ?_<;>simp (disch:=omega) only [go_sem,aa,true_or,or_true])
def gZ (n:ANode):Bool:=decide (2147483647<n.stat.cversion)
def zt (l:List ANode):Int:=if l.any gZ=true then (l.findIdx gZ:Nat) else -1
theorem GR {l:List ANode} {k:Nat} (h:k<l.length) (h1:gZ (l.getD k default)=true) (h2:∀ j,j<k→gZ (l.getD j default)=false):zt l=(k:Nat):=by
 rw [List.getD_eq_getElem?_getD,List.getElem?_eq_getElem h] at h1
 have e:l.findIdx gZ=k:=(List.findIdx_eq h).2 ⟨h1,fun j hj=>by
  have:=h2 j hj
  rwa [List.getD_eq_getElem?_getD,List.getElem?_eq_getElem (by omega)] at this⟩
 unfold zt
 rw [if_pos (List.any_eq_true.2 ⟨l[k],List.getElem_mem h,h1⟩),e]
theorem Ih {l:List ANode} (h2:∀ j,j<l.length→gZ (l.getD j default)=false):l.any gZ=false∧zt l=-1:=by
 have e:l.any gZ=false:=by
  rw [List.any_eq_false]
  intro x hx
  obtain ⟨j,hj,rfl⟩:=List.getElem_of_mem hx
  have:=h2 j hj
  rw [List.getD_eq_getElem?_getD,List.getElem?_eq_getElem hj] at this
  simpa using this
 exact ⟨e,by unfold zt;rw [e];rfl⟩
theorem DN (l:List ANode) (h:l.length*88≤140737488351232):ab Tryz.prog [] 133 [.d (.sl 9 (l.map ANode.row)),.d (.sc (.func (.func 76) #[] #[]))] (ret (I (zt l))):=by
 refine zJ Tryz.func133 Tryz.ntmps133 Tryz.results133 ?_;simp only [go_sem]
 (refine zW qw zn trivial (z1 ?_)<;>(repeat with_reducible intro hc))
 refine AWP.loopS (ι:=Nat) (fun k=>k≤l.length∧∀ j,j<k→gZ (l.getD j default)=false) (fun k=>l.length-k) [0,1,7] (fun k=>[(8,I k)]) 0 ?_ (by simp (disch:=omega) only [go_sem,aa,true_and]) ?_
 ·exact ⟨by omega,fun j hj=>by omega⟩
 intro k ⟨hk,hk2⟩
 simp only [go_sem]
 (refine zW qw (z1 (ic Tryz.func76)) trivial (z3 ?_ ?_ ?_)<;>(repeat with_reducible intro hc))
 ·rw [GR (by assumption) (by unfold gZ;rw [decide_eq_true_eq];exact hc) hk2]
  exact zEe trivial
 ·refine ⟨k+1,⟨by omega,fun j hj=>?_⟩,by omega,?_⟩
  ·by_cases e:j=k
   ·subst e;unfold gZ;rw [decide_eq_false_iff_not];omega
   ·exact hk2 j (by omega)
  exact zFr [] trivial
 ·rw [(Ih (fun j hj=>hk2 j (by omega))).2]
  exact zEe trivial
theorem EW (l:List ANode):decide (0≤zt l)=l.any gZ:=by
 unfold zt;split
 ·rename_i h;rw [h,decide_eq_true_eq];omega
 ·rename_i h;rw [show l.any gZ=false from by simpa using h];rfl
theorem gA (l:List ANode) (h:l.length*88≤140737488351232):ab Tryz.prog [] 75 [.d (.sl 9 (l.map ANode.row)),.d (.sc (.func (.func 76) #[] #[]))] (ret (B (l.any gZ))):=by
 rw [←EW]
 refine zJ Tryz.func75 Tryz.ntmps75 Tryz.results75 ?_;simp only [go_sem]
 (refine zW qw (z1 (DN l h)) trivial (z1 ?_)<;>(repeat with_reducible intro hc))
 exact zEe trivial
end Go.Proofs.YtjcooccnfkfjhaaGreatDoor
