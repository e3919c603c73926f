/- A part of what Tops leans on: texts of this claim, one behind the other. No condition. -/
import Derived.Test.YtjcooccnfkfjhaaGreatDoorTopsK8
namespace Go.Proofs.YtjcooccnfkfjhaaGreatDoor
set_option linter.unusedVariables false
set_option linter.unusedSimpArgs false
open Go Go.RowKit
theorem qTp0:Pls [Plan.takes [0,1,2,3,4,5,6] (.fork 7 (Plan.takes [8,9,10] .done) 8 (Plan.takes [7,9,10] .done))]:=pls _
attribute [go_sem] Tryz.ntmps72 Tryz.results72 Tryz.ntmps128 Tryz.results128
set_option maxRecDepth 100000
def pathsN (ns:List ANode):List (List UInt8):=ns.map ANode.path
def dirP (p:List UInt8):List UInt8:=(af p).1.1
def kidF (more z:Int) (n:ANode):ANode:=⟨n.path,n.data,⟨n.stat.czxid,n.stat.mzxid,z,n.stat.version,IntKind.i64.wrap (n.stat.cversion+1),n.stat.owner,IntKind.i64.wrap (n.stat.kids+more)⟩⟩
def oW (ns:List ANode) (p:List UInt8) (more z:Int):List ANode:=if dirP p∈pathsN ns then ns.set (place (pathsN ns) (dirP p)) (kidF more z (ns.getD (place (pathsN ns) (dirP p)) default)) else ns
def iq (ns:List ANode) (p:List UInt8) (z:Int):List ANode:=oW (ns.eraseIdx (place (pathsN ns) p)) p (-1) z
def mkN (x:ATxn):ANode:=⟨x.path,x.data,⟨x.zxid,x.zxid,x.zxid,0,0,x.owner,0⟩⟩
def rb (ns:List ANode) (x:ATxn):List ANode:=oW (ns.insertIdx (place (pathsN ns) x.path) (mkN x)) x.path 1 x.zxid
def setF (x:ATxn) (n:ANode):ANode:=⟨n.path,x.data,⟨n.stat.czxid,x.zxid,n.stat.pzxid,x.version,n.stat.cversion,n.stat.owner,n.stat.kids⟩⟩
def setN (ns:List ANode) (x:ATxn):List ANode:=ns.set (place (pathsN ns) x.path) (setF x (ns.getD (place (pathsN ns) x.path) default))
def nj (p:List UInt8):List AEvent:=[⟨2,p⟩,⟨4,dirP p⟩]
def bc (t:ATree) (s z:Int):Nat→List ANode×List AEvent
  | 0=>(t.nodes,[])
  | k+1=>if (t.nodes.getD k default).stat.owner=s then (iq (bc t s z k).1 (t.nodes.getD k default).path z,(bc t s z k).2++nj (t.nodes.getD k default).path) else bc t s z k
def dn (t:ATree) (x:ATxn):ATree×List AEvent:=
  if x.op=1 then (⟨x.zxid,t.nodes,t.sessions.insertIdx (aT t.sessions x.session) x.session⟩,[])
  else if x.op=2 then (⟨x.zxid,(bc t x.session x.zxid t.nodes.length).1,t.sessions.eraseIdx (aT t.sessions x.session)⟩,(bc t x.session x.zxid t.nodes.length).2)
  else if x.op=3 then (⟨x.zxid,rb t.nodes x,t.sessions⟩,[⟨1,x.path⟩,⟨4,dirP x.path⟩])
  else if x.op=4 then (⟨x.zxid,iq t.nodes x.path x.zxid,t.sessions⟩,nj x.path)
  else (⟨x.zxid,setN t.nodes x,t.sessions⟩,[⟨3,x.path⟩])
def ar (t:ATree) (x:ATxn):ATree×List AEvent×Int:=
  if ¬ cT t x=0 then (default,[],cT t x) else if (dn t x).1.nodes.any ip=true then (default,[],6) else ((dn t x).1,(dn t x).2,0)
theorem oe {t:ATree} {x:ATxn} (h:¬ cT t x=0):ar t x=(default,[],cT t x):=by unfold ar;rw [if_pos h]
theorem eO {t:ATree} {x:ATxn} (h:cT t x=0) (h2:(dn t x).1.nodes.any ip=true):ar t x=(default,[],6):=by unfold ar;rw [if_neg (fun h'=>h' h),if_pos h2]
theorem g0 {t:ATree} {x:ATxn} (h:cT t x=0) (h2:(dn t x).1.nodes.any ip=false):ar t x=((dn t x).1,(dn t x).2,0):=by unfold ar;rw [if_neg (fun h'=>h' h),if_neg (by rw [h2];decide)]
theorem iU {t:ATree} {p:List UInt8}:(aP t p).2=0↔p∈aL t:=by
  by_cases h:p∈aL t
  · unfold aP;rw [if_pos h];exact ⟨fun _=>h,fun _=>rfl⟩
  · unfold aP;rw [if_neg h];exact ⟨fun h'=>(by cases h'),fun h'=>absurd h' h⟩
theorem AE {t:ATree} {p:List UInt8} (h:¬ p∈aL t):(aP t p).2=7:=by unfold aP;rw [if_neg h]
theorem d5 {t:ATree} {x:ATxn} (h:cT t x=0):aK t=true∧aN x=0∧t.zxid < x.zxid∧(x.op=1→¬ x.session∈t.sessions)∧(¬ x.op=1→x.session∈t.sessions)∧
    (x.op=3→¬ x.path∈aL t∧dirP x.path∈aL t∧t.nodes.length < 400)∧(x.op=4→x.path∈aL t∧(aP t x.path).1.stat.kids≤0)∧(x.op=5→x.path∈aL t):=by
  unfold cT at h
  by_cases a1:aK t=true
  case neg=>rw [if_pos (by simpa using a1)] at h;cases h
  rw [if_neg (by simp [a1])] at h
  by_cases a2:aN x=0
  case neg=>rw [if_pos a2] at h;exact absurd h a2
  rw [if_neg (fun h=>h a2)] at h
  by_cases a3:x.zxid≤t.zxid
  · rw [if_pos a3] at h;cases h
  rw [if_neg a3] at h
  have a5:¬ x.op=1→x.session∈t.sessions:=fun o=>by
    rw [if_neg o] at h
    by_cases m:x.session∈t.sessions
    · exact m
    · rw [if_pos m] at h;cases h
  refine ⟨a1,a2,by omega,fun o=>?_,a5,fun o=>?_,fun o=>?_,fun o=>?_⟩
  · rw [if_pos o] at h
    intro m;rw [if_pos m] at h;cases h
  · rw [if_neg (by omega),if_neg (fun h=>h (a5 (by omega))),if_pos o] at h
    unfold o6 at h
    by_cases q1:(aP t x.path).2=0
    · rw [if_pos q1] at h;cases h
    rw [if_neg q1] at h
    by_cases q2:(aP t (af x.path).1.1).2=0
    case neg=>rw [if_pos q2] at h;exact absurd h q2
    rw [if_neg (fun h=>h q2)] at h
    split at h
    · cases h
    · split at h
      · cases h
      · split at h
        · cases h
        · exact ⟨fun m=>q1 (iU.2 m),iU.1 q2,by omega⟩
  · rw [if_neg (by omega),if_neg (fun h=>h (a5 (by omega))),if_neg (by omega),if_pos o] at h
    split at h
    · cases h
    · rename_i q;exact ⟨iU.1 h,by omega⟩
  · rw [if_neg (by omega),if_neg (fun h=>h (a5 (by omega))),if_neg (by omega),if_neg (by omega),if_pos o] at h
    split at h
    · cases h
    · exact iU.1 h
theorem eT {x:ATxn} (h:aN x=0):1≤x.op∧x.op≤5∧1≤x.session∧wP x=false:=by
  by_cases h1:x.op < 1∨5 < x.op
  · rw [xN h1] at h;cases h
  by_cases h2:l0 x=true
  case neg=>rw [py (by omega) h2] at h;cases h
  by_cases h3:256 < x.data.length
  · rw [qy (by omega) h2 h3] at h;cases h
  rw [yB (by omega) h2 (by omega)] at h
  refine ⟨by omega,by omega,((lU x).1 h2).2.1.1,?_⟩
  cases e:wP x
  · rfl
  · rw [e,if_pos rfl] at h;cases h
theorem mX {x:ATxn} (h:aN x=0) (ho:3≤x.op∧x.op≤4):bA x.path=true∧x.path≠[47]:=by
  obtain ⟨_,_,_,hb⟩:=eT h
  unfold wP at hb
  rw [if_neg (by omega)] at hb
  split at hb
  · simp at hb;exact ⟨hb.1,hb.2.1⟩
  · rw [if_pos (by omega)] at hb;simp at hb;exact ⟨hb.1,hb.2.1⟩
theorem qM (ns:List ANode) (p:List UInt8) (m z:Int):(oW ns p m z).length=ns.length:=by unfold oW;split<;>simp
theorem Ce {l:List (List UInt8)} {i:Nat} {x y:List UInt8} (h:i≤l.length):y∈l.insertIdx i x↔y=x∨y∈l:=List.mem_insertIdx h
theorem oC {l:List (List UInt8)} {key:List UInt8} (hr:aU l) (hm:¬ key∈l):aU (l.insertIdx (place l key) key):=by
  have hp:=fW l key
  have lo:∀ j,j < place l key→l.getD j [] < key:=fun j hj=>by
    have:=List.not_of_lt_findIdx (p:=fun x=>!decide (x < key)) (xs:=l) hj
    rw [List.getD_eq_getElem?_getD,List.getElem?_eq_getElem (by omega)]
    simpa using this
  have hi:∀ j,place l key≤j→j < l.length→key < l.getD j []:=fun j h1 h2=>by
    have a:¬ l.getD (place l key) [] < key:=by
      have:=List.findIdx_getElem (p:=fun x=>!decide (x < key)) (xs:=l) (w:=(by unfold place at h1;omega))
      rw [Bool.not_eq_true',decide_eq_false_iff_not] at this
      rw [List.getD_eq_getElem?_getD,List.getElem?_eq_getElem (by omega)]
      exact this
    have b:key < l.getD (place l key) []:=uN a fun e=>hm (by rw [←e];exact cu _ _ (by omega))
    by_cases e:place l key=j
    · rw [←e];exact b
    · exact List.lt_trans b (bd hr (by omega) h2)
  generalize place l key=p at *
  intro k hk
  rw [eN _ _ _ hp] at hk
  have gt (q:Nat) (hq:p < q):(l.insertIdx p key).getD q []=l.getD (q - 1) []:=by
    rw [eD _ _ _ hp,List.getD_eq_getElem?_getD,List.getElem?_append_right (by rw [List.length_take];omega),List.length_take,Nat.min_eq_left hp,show q - p=(q - p - 1)+1 from by omega,List.getElem?_cons_succ,List.getElem?_drop,List.getD_eq_getElem?_getD]
    congr 2;omega
  rcases Nat.lt_trichotomy (k+1) p with h | h | h
  · rw [eR _ _ _ _ _ hp (by omega),eR _ _ _ _ _ hp (by omega)];exact hr k (by omega)
  · subst h
    rw [eR _ _ _ _ _ hp (by omega),fX _ _ _ _ hp];exact lo k (by omega)
  · rw [gt _ h,Nat.add_sub_cancel]
    by_cases e:k=p
    · subst e;rw [fX _ _ _ _ hp];exact hi _ (Nat.le_refl _) (by omega)
    · rw [gt _ (by omega)]
      have:=hr (k - 1) (by omega)
      rwa [show k - 1+1=k from by omega] at this
theorem iw {l:List (List UInt8)} (hr:aU l) (i:Nat):aU (l.eraseIdx i):=by
  by_cases h:i < l.length
  · intro k hk
    rw [dJ _ _ h] at hk
    have g (q:Nat):(l.eraseIdx i).getD q []=if q < i then l.getD q [] else l.getD (q+1) []:=by
      rw [List.getD_eq_getElem?_getD,List.getElem?_eraseIdx];split<;>rw [List.getD_eq_getElem?_getD]
    rw [g,g]
    split<;>split
    · exact hr k (by omega)
    · exact bd hr (by omega) (by omega)
    · omega
    · exact hr (k+1) (by omega)
  · rw [List.eraseIdx_of_length_le (by omega)];exact hr
theorem mE (ns:List ANode) (i:Nat) (n:ANode):pathsN (ns.insertIdx i n)=(pathsN ns).insertIdx i n.path:=by unfold pathsN;exact (jY ANode.path ns i n).symm
theorem cy (ns:List ANode) (i:Nat):pathsN (ns.eraseIdx i)=(pathsN ns).eraseIdx i:=by unfold pathsN;exact (df ANode.path ns i).symm
theorem qF (ns:List ANode) (i:Nat) (n:ANode) (h:n.path=(ns.getD i default).path):pathsN (ns.set i n)=pathsN ns:=by
  unfold pathsN
  apply List.ext_getElem?
  intro j
  rw [List.getElem?_map,List.getElem?_map,List.getElem?_set]
  split
  · rename_i e;subst e
    split
    · rename_i h2;rw [List.getD_eq_getElem?_getD,List.getElem?_eq_getElem h2] at h;rw [List.getElem?_eq_getElem h2];simp [h]
    · rename_i h2;rw [List.getElem?_eq_none (by omega)]
  · rfl
theorem mP (ns:List ANode) (p:List UInt8) (m z:Int):pathsN (oW ns p m z)=pathsN ns:=by
  unfold oW;split
  · exact qF _ _ _ rfl
  · rfl
theorem bh (ns:List ANode):(pathsN ns).length=ns.length:=by unfold pathsN;simp
theorem yM {s:List UInt8} (hg:bA s=true) (h:s≠[47]):dirP s≠s:=by
  rcases ne hg with e | ⟨ps,p,h1,h2,h3,_⟩
  · exact absurd e h
  · unfold dirP
    rw [h2,mW h1 h3]
    intro e
    have:=congrArg cZ e
    rw [gx h1,gx (fun q hq=>h1 q (List.mem_append.2 (.inl hq)))] at this
    have:=congrArg List.length this
    simp at this
theorem je {l:List (List UInt8)} {i:Nat} {y:List UInt8} (h:y∈l) (hy:l.getD i []≠y):y∈l.eraseIdx i:=by
  by_cases hi:i < l.length
  · rw [gc,List.mem_append]
    have:l=l.take i++l.getD i []::l.drop (i+1):=by
      rw [List.getD_eq_getElem?_getD,List.getElem?_eq_getElem hi];simp
    rw [this,List.mem_append,List.mem_cons] at h
    rcases h with h | h | h
    · exact .inl h
    · exact absurd h.symm hy
    · exact .inr h
  · rw [List.eraseIdx_of_length_le (by omega)];exact h
theorem BE {t:ATree} (hg:aK t=true) {p:List UInt8} (hm:p∈aL t) (h:p≠[47]):dirP p∈aL t∧dirP p≠p:=by
  have hr:=aV hg
  have hpl:=(ao hr hm).1
  have hpe:=(ao hr hm).2
  rw [aR] at hpl
  rw [aW] at hpe
  obtain ⟨_,_,a,b⟩:=bp.1 hg
  have hgp:=(a _ hpl).1
  rw [hpe] at hgp
  refine ⟨?_,yM hgp h⟩
  rcases (b _ hpl).2.2.1 with e | e
  · rw [e,(dj hg).2.2.1] at hpe;exact absurd hpe.symm h
  · unfold tj at e;rw [hpe] at e;exact e
theorem jW (z:Int) (ns:List ANode) (ss:List Int) (key:List UInt8) (h:ns.length*88≤140737488351232) (hr:aU (pathsN ns)):ab Tryz.prog [] 74 [.agg [I z,.d (.sl 9 (ns.map ANode.row)),.d (.sl 1 (ss.map cW))],S key] (ret (.tup [I (place (pathsN ns) key),B (decide (key∈pathsN ns))])):=
  wm ⟨z,ns,ss⟩ key h hr
theorem tP {l:List Int} {key:Int} (hr:fy l) (h:key∈l):aT l key < l.length:=by
  obtain ⟨k,hk,e⟩:=(bB l default key).1 h
  have:aT l key=k:=po (by omega) (fun j hj=>by rw [←e];exact eh hr hj hk) (fun _=>by rw [e];omega)
  omega
theorem Bx {l:List Int} (h:∀ k,k < l.length→eC l k):∀ k,k < l.length→((k:Nat):Int)+1≤l.getD k default
  | 0,hk=>by have:=(h 0 hk).1;omega
  | k+1,hk=>by
    have a:=Bx h k (by omega)
    have b:=(h (k+1) hk).2.2 (by omega)
    rw [Nat.add_sub_cancel] at b;omega
theorem qX {t:ATree} (hg:aK t=true):t.sessions.length≤2147483647:=by
  have h:=(bp.1 hg).2.1
  rcases Nat.eq_zero_or_pos t.sessions.length with e | e
  · omega
  · have a:=Bx h (t.sessions.length - 1) (by omega)
    have b:=(h (t.sessions.length - 1) (by omega)).2.1
    omega
set_option maxHeartbeats 8000000 in
theorem E7 (t:ATree) (x:ATxn) (hw:t.wf) (hp:okS x.path) (hd:okS x.data) (h0:cT t x=0) (o3:x.op=3):ab Tryz.prog [] 32 [t.av,x.av] (ret (.tup [(ar t x).1.av,.d (.sl 2 ((ar t x).2.1.map AEvent.row)),I (ar t x).2.2])):=by
  have hwc:=lV t x hw hp hd
  obtain ⟨g1,g2,g3,g4,g5,g6,g7,g8⟩:=d5 h0
  obtain ⟨h1,h2⟩:t.nodes.length*88≤140737488351232∧t.sessions.length*8≤140737488351232:=⟨hw.2.1.1,hw.2.2.1⟩
  have hcp:=jm t h1 h2
  have h400:t.nodes.length≤400:=(dj g1).2.1
  rw [h0] at hwc
  have hr:aU (pathsN t.nodes):=aV g1
  obtain ⟨m1,m2,hlt⟩:=g6 o3
  have hf1:=jW x.zxid t.nodes t.sessions x.path h1 hr
  have hpl:place (pathsN t.nodes) x.path≤(t.nodes.map ANode.row).length:=by have:=fW (pathsN t.nodes) x.path;rw [bh] at this;rw [List.length_map];exact this
  have hpl2:place (pathsN t.nodes) x.path≤t.nodes.length:=by rw [List.length_map] at hpl;exact hpl
  have hdone:(dn t x)=(⟨x.zxid,rb t.nodes x,t.sessions⟩,[⟨1,x.path⟩,⟨4,dirP x.path⟩]):=by unfold dn;rw [if_neg (by omega),if_neg (by omega),if_pos o3]
  generalize hN:t.nodes.insertIdx (place (pathsN t.nodes) x.path) (⟨x.path,x.data,⟨x.zxid,x.zxid,x.zxid,0,0,x.owner,0⟩⟩:ANode)=ns1
  have hN':t.nodes.insertIdx (place (pathsN t.nodes) x.path) (mkN x)=ns1:=hN
  have hl1:ns1.length=t.nodes.length+1:=by rw [←hN,eN _ _ _ hpl2]
  have hp1:pathsN ns1=(pathsN t.nodes).insertIdx (place (pathsN t.nodes) x.path) x.path:=by rw [←hN,mE]
  have hr1:aU (pathsN ns1):=by rw [hp1];exact oC hr m1
  have hm1:dirP x.path∈pathsN ns1:=by rw [hp1,Ce (by rw [bh];exact hpl2)];exact .inr m2
  have hq:=(ao hr1 hm1).1
  rw [bh] at hq
  have hadd:rb t.nodes x=ns1.set (place (pathsN ns1) (dirP x.path)) (kidF 1 x.zxid (ns1.getD (place (pathsN ns1) (dirP x.path)) default)):=by unfold rb oW;rw [hN',if_pos hm1]
  have hf2:=(jW x.zxid ns1 t.sessions (dirP x.path) (by omega) hr1).re (by rw [decide_eq_true hm1])
  rw [hadd] at hdone
  generalize hn2:ns1.set (place (pathsN ns1) (dirP x.path)) (kidF 1 x.zxid (ns1.getD (place (pathsN ns1) (dirP x.path)) default))=ns2 at hdone
  have hl2:ns2.length=t.nodes.length+1:=by rw [←hn2,List.length_set,hl1]
  have hcc:=ij ns2 (by omega)
  unfold kidF at hn2
  have e1:(af x.path).1.1=dirP x.path:=rfl
  have tk1:List.take (t.nodes.length+1) (ns1.map ANode.row)=ns1.map ANode.row:=List.take_of_length_le (by rw [List.length_map];omega)
  have tk2:List.take (t.nodes.length+1) (ns2.map ANode.row)=ns2.map ANode.row:=List.take_of_length_le (by rw [List.length_map];omega)
  refine zJ Tryz.func32 Tryz.ntmps32 Tryz.results32 ?_;simp only [go_sem]
  (repeat' first
| (with_reducible refine AR.f ?_)
| refine ap (by decide) ?_
| (with_reducible refine AWP.cond rfl ?_ ?_<;>intro hc<;>(try simp only [hcs,beq_iff_eq,ge_iff_le,gt_iff_lt] at hc))
| (refine bQ fun Kk hKk=>(cr bF Tryz.func73 rfl (by kernel_rfl) (by simp [Tryz.ntmps73]) ?_);simp only [Tryz.ntmps73,Tryz.results73,List.toList_toArray,gl,List.length_nil,List.length_cons,Nat.reduceAdd,List.length_append,List.length_set,go_sem])
| (refine bQ fun Kk hKk=>(cr bF Tryz.func128 rfl (by kernel_rfl) (by simp [Tryz.ntmps128]) ?_);simp only [Tryz.ntmps128,Tryz.results128,List.toList_toArray,gl,List.length_nil,List.length_cons,Nat.reduceAdd,List.length_append,List.length_set,go_sem])
| ((first | ((first | refine zP ((Plan.takes [0,1,2,3,4,6,7,8,9,10,11,12,13,14,15,16,17,18,19,20] (.fork 5 (Plan.takes [21,22,23,24,25,26] .done) 21 (Plan.takes [5,22,23,24,25,26] .done)))) (by decide +kernel) ?_ | refine zP ((Plan.takes [0,1,2,3,5,6,7] (.fork 4 (Plan.takes [8,9,10,11,12] .done) 8 (Plan.takes [4,9,10,11,12] .done)))) (by decide +kernel) ?_ | refine zP ((Plan.takes [0,1,2,3,4,5,6] (.fork 7 (Plan.takes [8,9,10] .done) 8 (Plan.takes [7,9,10] .done)))) (by decide +kernel) ?_ | (with_reducible first | refine zR ?_ | refine zQ (by decide +kernel) ?_ | refine zD (by decide +kernel) ?_ | refine zE (by decide +kernel) ?_ | refine zG (by decide +kernel) ?_));intro K hK) | ((first | refine zA hwc ?_ ?_ ?_ ?_ ?_ | refine zA hf1 ?_ ?_ ?_ ?_ ?_ | refine zA hf2 ?_ ?_ ?_ ?_ ?_ | refine zA hcc ?_ ?_ ?_ ?_ ?_ | refine zA (split_c x.path hp) ?_ ?_ ?_ ?_ ?_);(focus exact rfl);(focus exact rfl);iterate 2 (focus ((try simp (disch:=omega) only [go_sem,aa,o3,ANode.rins,hN,hl1,e1,hn2,hl2,tk1,tk2,ANode.rgetD,bK,ANode.rset,aO,List.set_set])<;>(try omega)<;>fail))) | ((first | refine zN hcp rfl ?_ ?_ | refine zX hwc rfl ?_ ?_ | refine zY hcp ?_ ?_ | refine zX hcc rfl ?_ ?_ | refine zX (split_c x.path hp) rfl ?_ ?_);(focus ((try simp (disch:=omega) only [go_sem,aa,o3,ANode.rins,hN,hl1,e1,hn2,hl2,tk1,tk2,ANode.rgetD,bK,ANode.rset,aO,List.set_set])<;>(try omega)<;>fail))) | ((first | refine zX hf1 rfl ?_ ?_);(focus ((try simp (disch:=omega) only [go_sem,aa,o3,ANode.rins,hN,hl1,e1,hn2,hl2,tk1,tk2,ANode.rgetD,bK,ANode.rset,aO,List.set_set])<;>(try omega)<;>fail))) | ((first | refine zX hf2 rfl ?_ ?_);(focus ((try simp (disch:=omega) only [go_sem,aa,o3,ANode.rins,hN,hl1,e1,hn2,hl2,tk1,tk2,ANode.rgetD,bK,ANode.rset,aO,List.set_set])<;>(try omega)<;>fail))) | (refine acallH_own (Di (t.nodes.map ANode.row) [.str x.path,.str x.data,.int .i64 x.zxid,.int .i64 x.zxid,.int .i64 x.zxid,.int .i64 0,.int .i64 0,.int .i64 x.owner,.int .i64 0] (place (pathsN t.nodes) x.path) hpl (by rw [List.length_map];omega)) ?_ ?_ ?_;(focus ((try simp (disch:=omega) only [inj,List.cons.injEq,and_self,List.nodup_cons,List.not_mem_nil,List.mem_cons,not_false_eq_true,List.nodup_nil,go_sem,aa,o3,ANode.rins,hN,hl1,e1,hn2,hl2,tk1,tk2,ANode.rgetD,bK,ANode.rset,aO,List.set_set])<;>(try omega)<;>fail));(focus ((try simp (disch:=omega) only [inj,List.cons.injEq,and_self,List.nodup_cons,List.not_mem_nil,List.mem_cons,not_false_eq_true,List.nodup_nil,go_sem,aa,o3,ANode.rins,hN,hl1,e1,hn2,hl2,tk1,tk2,ANode.rgetD,bK,ANode.rset,aO,List.set_set])<;>(try omega)<;>(try decide)<;>fail))) | (refine aend_in (v:=?_) hKk (by first | exact .inl rfl | exact .inr rfl) ?_ ?_ ?_;rotate_left;(focus ((try simp (disch:=omega) only [go_sem,aa,o3,ANode.rins,hN,hl1,e1,hn2,hl2,tk1,tk2,ANode.rgetD,bK,ANode.rset,aO,List.set_set])<;>(try omega)<;>fail));(focus ((try simp (disch:=omega) only [go_sem,aa,o3,ANode.rins,hN,hl1,e1,hn2,hl2,tk1,tk2,ANode.rgetD,bK,ANode.rset,aO,List.set_set])<;>(first | done | exact rfl)));clear hKk Kk) | ((first | (with_reducible refine aunder_i ?_ ?_<;>intro hg) | with_reducible intro hg)<;>(first | (exfalso;simp at hg;done) | (have hg':=hg;(try simp only [hcs,beq_iff_eq,ge_iff_le,gt_iff_lt] at hg');(try simp only [hg])))))<;>(try simp (disch:=omega) only [go_sem,aa,o3,ANode.rins,hN,hl1,e1,hn2,hl2,tk1,tk2,ANode.rgetD,bK,ANode.rset,aO,List.set_set])<;>(repeat' with_reducible refine And.intro ?_ ?_)<;>(try (with_reducible refine hK _ ?_;clear hK K)))
| omega)
  all_goals first
    | (rw [eO h0 (by rw [hdone];exact hc)];(refine zE2 dfl ?_;(try simp (disch:=omega) only [go_sem,aa,dfl,I,B,S,zj]));done)
    | (rw [g0 h0 (by rw [hdone];exact hc),hdone];(refine zE2 @tk2 ?_;(try simp (disch:=omega) only [go_sem,aa,tk2,I,B,S,zj]));done)
set_option maxHeartbeats 8000000 in
theorem H5 (t:ATree) (x:ATxn) (hw:t.wf) (hp:okS x.path) (hd:okS x.data) (h0:cT t x=0) (o4:x.op=4):ab Tryz.prog [] 32 [t.av,x.av] (ret (.tup [(ar t x).1.av,.d (.sl 2 ((ar t x).2.1.map AEvent.row)),I (ar t x).2.2])):=by
  have hwc:=lV t x hw hp hd
  obtain ⟨g1,g2,g3,g4,g5,g6,g7,g8⟩:=d5 h0
  obtain ⟨h1,h2⟩:t.nodes.length*88≤140737488351232∧t.sessions.length*8≤140737488351232:=⟨hw.2.1.1,hw.2.2.1⟩
  have hcp:=jm t h1 h2
  have h400:t.nodes.length≤400:=(dj g1).2.1
  rw [h0] at hwc
  have hr:aU (pathsN t.nodes):=aV g1
  obtain ⟨m1,_⟩:=g7 o4
  have hnr:x.path≠[47]:=(mX g2 (by omega)).2
  obtain ⟨m2,m3⟩:=BE g1 m1 hnr
  have hf1:=(jW x.zxid t.nodes t.sessions x.path h1 hr).re (by rw [decide_eq_true (show x.path∈pathsN t.nodes from m1)])
  have hpf:=ao hr m1
  have hpl:place (pathsN t.nodes) x.path < (t.nodes.map ANode.row).length:=by have:=hpf.1;rw [List.length_map];rwa [bh] at this
  have hpl2:place (pathsN t.nodes) x.path < t.nodes.length:=by rw [List.length_map] at hpl;exact hpl
  have hdone:(dn t x)=(⟨x.zxid,iq t.nodes x.path x.zxid,t.sessions⟩,nj x.path):=by unfold dn;rw [if_neg (by omega),if_neg (by omega),if_neg (by omega),if_pos o4]
  generalize hN:t.nodes.eraseIdx (place (pathsN t.nodes) x.path)=ns1
  have hl1:ns1.length=t.nodes.length - 1:=by rw [←hN,dJ _ _ hpl2]
  have hp1:pathsN ns1=(pathsN t.nodes).eraseIdx (place (pathsN t.nodes) x.path):=by rw [←hN,cy]
  have hr1:aU (pathsN ns1):=by rw [hp1];exact iw hr _
  have hm1:dirP x.path∈pathsN ns1:=by rw [hp1];exact je m2 (by rw [hpf.2];exact m3.symm)
  have hq:=(ao hr1 hm1).1
  rw [bh] at hq
  have hadd:iq t.nodes x.path x.zxid=ns1.set (place (pathsN ns1) (dirP x.path)) (kidF (-1) x.zxid (ns1.getD (place (pathsN ns1) (dirP x.path)) default)):=by unfold iq oW;rw [hN,if_pos hm1]
  have hf2:=(jW x.zxid ns1 t.sessions (dirP x.path) (by omega) hr1).re (by rw [decide_eq_true hm1])
  rw [hadd] at hdone
  generalize hn2:ns1.set (place (pathsN ns1) (dirP x.path)) (kidF (-1) x.zxid (ns1.getD (place (pathsN ns1) (dirP x.path)) default))=ns2 at hdone
  have hl2:ns2.length=t.nodes.length - 1:=by rw [←hn2,List.length_set,hl1]
  have hcc:=ij ns2 (by omega)
  unfold kidF at hn2
  have e1:(af x.path).1.1=dirP x.path:=rfl
  have tk1:List.take (t.nodes.length - 1) (ns1.map ANode.row)=ns1.map ANode.row:=List.take_of_length_le (by rw [List.length_map];omega)
  have tk2:List.take (t.nodes.length - 1) (ns2.map ANode.row)=ns2.map ANode.row:=List.take_of_length_le (by rw [List.length_map];omega)
  refine zJ Tryz.func32 Tryz.ntmps32 Tryz.results32 ?_;simp only [go_sem]
  (refine zW qw (zc qTp0 (zc hwc (zc hcp (zc (ic Tryz.func72) (zc (ic Tryz.func128) (zc hf1 (z4 hf2 hcc (split_c x.path hp) (ow (u5 (t.nodes.map ANode.row) (place (pathsN t.nodes) x.path) hpl (by rw [List.length_map];omega)))))))))) (zx @o4 (zx @df (zx @hN (zx @hl1 (zx @e1 (zx @hn2 (zx @hl2 (zx @tk1 (zx @tk2 (zx @ANode.rgetD (zx @bK (zx @ANode.rset (zx @aO @List.set_set.{0}))))))))))))) (z2 ?_ ?_)<;>(repeat with_reducible intro hc))
  all_goals first
    | (rw [eO h0 (by rw [hdone];exact hc)];(refine zF rfl ?_ ?_ ?_ ?_;(iterate 3 (focus ((try simp (disch:=omega) only [go_sem,aa,default])<;>(try omega)<;>fail)));(try simp (disch:=omega) only [go_sem,aa,default,I,B,S,zj]));done)
    | (rw [g0 h0 (by rw [hdone];exact hc),hdone];(refine zF rfl ?_ ?_ ?_ ?_;(iterate 3 (focus ((try simp (disch:=omega) only [go_sem,aa,tk2,nj])<;>(try omega)<;>fail)));(try simp (disch:=omega) only [go_sem,aa,tk2,nj,I,B,S,zj]));done)
set_option maxHeartbeats 8000000 in
theorem In (t:ATree) (x:ATxn) (hw:t.wf) (hp:okS x.path) (hd:okS x.data) (h0:cT t x=0) (o5:x.op=5):ab Tryz.prog [] 32 [t.av,x.av] (ret (.tup [(ar t x).1.av,.d (.sl 2 ((ar t x).2.1.map AEvent.row)),I (ar t x).2.2])):=by
  have hwc:=lV t x hw hp hd
  obtain ⟨g1,g2,g3,g4,g5,g6,g7,g8⟩:=d5 h0
  obtain ⟨h1,h2⟩:t.nodes.length*88≤140737488351232∧t.sessions.length*8≤140737488351232:=⟨hw.2.1.1,hw.2.2.1⟩
  have hcp:=jm t h1 h2
  have h400:t.nodes.length≤400:=(dj g1).2.1
  rw [h0] at hwc
  have hr:aU (pathsN t.nodes):=aV g1
  have m1:=g8 o5
  have hf1:=(jW x.zxid t.nodes t.sessions x.path h1 hr).re (by rw [decide_eq_true (show x.path∈pathsN t.nodes from m1)])
  have hq:=(ao hr m1).1
  rw [bh] at hq
  have hdone:(dn t x)=(⟨x.zxid,setN t.nodes x,t.sessions⟩,[⟨3,x.path⟩]):=by unfold dn;rw [if_neg (by omega),if_neg (by omega),if_neg (by omega),if_neg (by omega)]
  have hadd:setN t.nodes x=t.nodes.set (place (pathsN t.nodes) x.path) (setF x (t.nodes.getD (place (pathsN t.nodes) x.path) default)):=rfl
  rw [hadd] at hdone
  generalize hn2:t.nodes.set (place (pathsN t.nodes) x.path) (setF x (t.nodes.getD (place (pathsN t.nodes) x.path) default))=ns2 at hdone
  have hl2:ns2.length=t.nodes.length:=by rw [←hn2,List.length_set]
  have hcc:=ij ns2 (by omega)
  unfold setF at hn2
  have tk2:List.take t.nodes.length (ns2.map ANode.row)=ns2.map ANode.row:=List.take_of_length_le (by rw [List.length_map];omega)
  refine zJ Tryz.func32 Tryz.ntmps32 Tryz.results32 ?_;simp only [go_sem]
  (repeat' first
| (with_reducible refine AR.f ?_)
| refine ap (by decide) ?_
| (with_reducible refine AWP.cond rfl ?_ ?_<;>intro hc<;>(try simp only [hcs,beq_iff_eq,ge_iff_le,gt_iff_lt] at hc))
| ((first | ((first | refine zP ((Plan.takes [0,1,2,3,4,5,6,7,8,9,10] .done)) (by decide +kernel) ?_ | refine zP ((Plan.takes [0,1,2,3,4,5,6,7,8,9,10,11,12,13,14,16,17,18] (.fork 15 (Plan.takes [19,20,21,22,23] .done) 19 (Plan.takes [15,20,21,22,23] .done)))) (by decide +kernel) ?_ | refine zP ((Plan.takes [0,1,2,3,5,6,7] (.fork 4 (Plan.takes [8,9,10,11,12] .done) 8 (Plan.takes [4,9,10,11,12] .done)))) (by decide +kernel) ?_ | refine zP ((Plan.takes [0,1,2,3,4,5,6] (.fork 7 (Plan.takes [8,9,10] .done) 8 (Plan.takes [7,9,10] .done)))) (by decide +kernel) ?_ | (with_reducible first | refine zR ?_ | refine zQ (by decide +kernel) ?_ | refine zD (by decide +kernel) ?_ | refine zE (by decide +kernel) ?_ | refine zG (by decide +kernel) ?_));intro K hK) | ((first | refine zA hwc ?_ ?_ ?_ ?_ ?_ | refine zA hf1 ?_ ?_ ?_ ?_ ?_ | refine zA hcc ?_ ?_ ?_ ?_ ?_);(focus exact rfl);(focus exact rfl);iterate 2 (focus ((try simp (disch:=omega) only [go_sem,aa,o5,hn2,hl2,tk2,ANode.rgetD,bK,ANode.rset,aO,List.set_set])<;>(try omega)<;>fail))) | ((first | refine zN hcp rfl ?_ ?_ | refine zX hwc rfl ?_ ?_ | refine zY hcp ?_ ?_ | refine zX hf1 rfl ?_ ?_ | refine zX hcc rfl ?_ ?_);(focus ((try simp (disch:=omega) only [go_sem,aa,o5,hn2,hl2,tk2,ANode.rgetD,bK,ANode.rset,aO,List.set_set])<;>(try omega)<;>fail))) | ((first | (with_reducible refine aunder_i ?_ ?_<;>intro hg) | with_reducible intro hg)<;>(first | (exfalso;simp at hg;done) | (have hg':=hg;(try simp only [hcs,beq_iff_eq,ge_iff_le,gt_iff_lt] at hg');(try simp only [hg])))))<;>(try simp (disch:=omega) only [go_sem,aa,o5,hn2,hl2,tk2,ANode.rgetD,bK,ANode.rset,aO,List.set_set])<;>(repeat' with_reducible refine And.intro ?_ ?_)<;>(try (with_reducible refine hK _ ?_;clear hK K)))
| omega)
  all_goals first
    | (rw [eO h0 (by rw [hdone];exact hc)];(refine zE2 dfl ?_;(try simp (disch:=omega) only [go_sem,aa,dfl,I,B,S,zj]));done)
    | (rw [g0 h0 (by rw [hdone];exact hc),hdone];(refine zE2 @tk2 ?_;(try simp (disch:=omega) only [go_sem,aa,tk2,I,B,S,zj]));done)
set_option maxHeartbeats 8000000 in
theorem IG (t:ATree) (x:ATxn) (hw:t.wf) (hp:okS x.path) (hd:okS x.data) (h0:cT t x=0) (o1:x.op=1):ab Tryz.prog [] 32 [t.av,x.av] (ret (.tup [(ar t x).1.av,.d (.sl 2 ((ar t x).2.1.map AEvent.row)),I (ar t x).2.2])):=by
  have hwc:=lV t x hw hp hd
  obtain ⟨g1,g2,g3,g4,g5,g6,g7,g8⟩:=d5 h0
  obtain ⟨h1,h2⟩:t.nodes.length*88≤140737488351232∧t.sessions.length*8≤140737488351232:=⟨hw.2.1.1,hw.2.2.1⟩
  have hcp:=jm t h1 h2
  have h400:t.nodes.length≤400:=(dj g1).2.1
  rw [h0] at hwc
  have hri:fy t.sessions:=jk g1
  have hss:t.sessions.length≤2147483647:=qX g1
  have hb1:=vr t.sessions x.session h2 hri
  have hpl:aT t.sessions x.session≤(t.sessions.map cW).length:=by rw [List.length_map];exact List.findIdx_le_length
  have hpl2:aT t.sessions x.session≤t.sessions.length:=List.findIdx_le_length
  have hdone:(dn t x)=(⟨x.zxid,t.nodes,t.sessions.insertIdx (aT t.sessions x.session) x.session⟩,[]):=by unfold dn;rw [if_pos o1]
  generalize hN:t.sessions.insertIdx (aT t.sessions x.session) x.session=ss1 at hdone
  have hl1:ss1.length=t.sessions.length+1:=by rw [←hN,eN _ _ _ hpl2]
  have hri1:(t.sessions.map cW).insertIdx (aT t.sessions x.session) [DV.int .i64 x.session]=ss1.map cW:=by rw [←hN];exact jY cW t.sessions _ x.session
  have tk2:List.take (t.sessions.length+1) (ss1.map cW)=ss1.map cW:=List.take_of_length_le (by rw [List.length_map];omega)
  have hcc:=ij t.nodes h1
  refine zJ Tryz.func32 Tryz.ntmps32 Tryz.results32 ?_;simp only [go_sem]
  (repeat' first
| (with_reducible refine AR.f ?_)
| refine ap (by decide) ?_
| (with_reducible refine AWP.cond rfl ?_ ?_<;>intro hc<;>(try simp only [hcs,beq_iff_eq,ge_iff_le,gt_iff_lt] at hc))
| ((first | ((first | refine zP ((Plan.takes [0,1,2,3,4,6,7,8] (.fork 5 (Plan.takes [9,10,11,12,13,14] .done) 9 (Plan.takes [5,10,11,12,13,14] .done)))) (by decide +kernel) ?_ | refine zP ((Plan.takes [0,1,2,3,4,5,6] (.fork 7 (Plan.takes [8,9,10] .done) 8 (Plan.takes [7,9,10] .done)))) (by decide +kernel) ?_ | (with_reducible first | refine zR ?_ | refine zQ (by decide +kernel) ?_ | refine zD (by decide +kernel) ?_ | refine zE (by decide +kernel) ?_ | refine zG (by decide +kernel) ?_));intro K hK) | ((first | refine zA hwc ?_ ?_ ?_ ?_ ?_ | refine zA hb1 ?_ ?_ ?_ ?_ ?_ | refine zA hcc ?_ ?_ ?_ ?_ ?_);(focus exact rfl);(focus exact rfl);iterate 2 (focus ((try simp (disch:=omega) only [go_sem,aa,o1,hri1,hl1,tk2])<;>(try omega)<;>fail))) | ((first | refine zN hcp rfl ?_ ?_ | refine zN hb1 rfl ?_ ?_ | refine zX hwc rfl ?_ ?_ | refine zY hcp ?_ ?_ | refine zX hcc rfl ?_ ?_);(focus ((try simp (disch:=omega) only [go_sem,aa,o1,hri1,hl1,tk2])<;>(try omega)<;>fail))) | ((first | refine zX hb1 rfl ?_ ?_ | refine zY hb1 ?_ ?_);(focus ((try simp (disch:=omega) only [go_sem,aa,o1,hri1,hl1,tk2])<;>(try omega)<;>fail))) | (refine acallH_own (HF (t.sessions.map cW) [.int .i64 x.session] (aT t.sessions x.session) hpl (by rw [List.length_map];omega)) ?_ ?_ ?_;(focus ((try simp (disch:=omega) only [inj,List.cons.injEq,and_self,List.nodup_cons,List.not_mem_nil,List.mem_cons,not_false_eq_true,List.nodup_nil,go_sem,aa,o1,hri1,hl1,tk2])<;>(try omega)<;>fail));(focus ((try simp (disch:=omega) only [inj,List.cons.injEq,and_self,List.nodup_cons,List.not_mem_nil,List.mem_cons,not_false_eq_true,List.nodup_nil,go_sem,aa,o1,hri1,hl1,tk2])<;>(try omega)<;>(try decide)<;>fail))) | ((first | (with_reducible refine aunder_i ?_ ?_<;>intro hg) | with_reducible intro hg)<;>(first | (exfalso;simp at hg;done) | (have hg':=hg;(try simp only [hcs,beq_iff_eq,ge_iff_le,gt_iff_lt] at hg');(try simp only [hg])))))<;>(try simp (disch:=omega) only [go_sem,aa,o1,hri1,hl1,tk2])<;>(repeat' with_reducible refine And.intro ?_ ?_)<;>(try (with_reducible refine hK _ ?_;clear hK K)))
| omega)
  all_goals first
    | (rw [eO h0 (by rw [hdone];exact hc)];(refine zE2 dfl ?_;(try simp (disch:=omega) only [go_sem,aa,dfl,I,B,S,zj]));done)
    | (rw [g0 h0 (by rw [hdone];exact hc),hdone];(refine zE2 @tk2 ?_;(try simp (disch:=omega) only [go_sem,aa,tk2,I,B,S,zj]));done)
attribute [go_sem] Tryz.ntmps72 Tryz.results72 Tryz.ntmps128 Tryz.results128
theorem Co {t:ATree} {p:List UInt8} {n:Nat} (h:kidsN t p n=0) {j:Nat} (hj:j < n):tj t j≠p:=by
  unfold kidsN at h
  rw [List.length_eq_zero_iff,List.filter_eq_nil_iff] at h
  have:=h j (List.mem_range.2 hj)
  simpa using this
structure CloseOk (t:ATree) (s:Int) (k:Nat) (ns:List ANode) (es:List AEvent):Prop where
  rises:aU (pathsN ns)
  rest:∀ j,k≤j→j < t.nodes.length→(nd t j).path∈pathsN ns
  dirs:∀ j,j < t.nodes.length→(nd t j).stat.owner=s→dirP (nd t j).path∈pathsN ns
  len:ns.length≤t.nodes.length
  elen:es.length≤2*k
theorem pj {t:ATree} {s z:Int} (hg:aK t=true) (hs:1≤s) {k:Nat} (hk:k < t.nodes.length) (ho:(nd t k).stat.owner=s):bA (nd t k).path=true∧dirP (nd t k).path∈aL t∧dirP (nd t k).path≠(nd t k).path∧∀ j,j < t.nodes.length→dirP (nd t j).path≠(nd t k).path:=by
  obtain ⟨hh,_,hA,hB⟩:=bp.1 hg
  have hmem:(nd t k).path∈aL t:=by rw [←aW];exact cu _ _ (by rw [aR];exact hk)
  have hnr:(nd t k).path≠[47]:=fun e=>by
    have h0:k=0:=by
      apply Classical.byContradiction;intro hk0
      have:=qI (t:=t) (i:=k) (fun j hj=>hA j (by omega)) (by omega)
      rw [hh.2.2.1,e] at this;exact List.lt_irrefl _ this
    subst h0;rw [hh.2.2.2.1] at ho;omega
  obtain ⟨a,b⟩:=BE hg hmem hnr
  refine ⟨(hA k hk).1,a,b,fun j hj=>?_⟩
  obtain ⟨_,c,_,d⟩:=hB k hk
  have hz:=(c (by omega)).2
  rw [hz] at d
  exact Co (by omega) hj
theorem nB {t:ATree} {s z:Int} (hg:aK t=true) (hs:1≤s):∀ k,k≤t.nodes.length→CloseOk t s k (bc t s z k).1 (bc t s z k).2
  | 0,_=>⟨aV hg,fun j _ hj=>by show (nd t j).path∈aL t;rw [←aW];exact cu _ _ (by rw [aR];exact hj),fun j hj ho=>(pj (z:=z) hg hs hj ho).2.1,Nat.le_refl _,Nat.le_refl _⟩
  | k + 1,h=>by
    have ih:=nB (z:=z) hg hs k (by omega)
    unfold bc
    by_cases ho:(t.nodes.getD k default).stat.owner=s
    · rw [if_pos ho]
      have hm:=ih.rest k (Nat.le_refl _) (by omega)
      have hpf:=ao ih.rises hm
      obtain ⟨_,_,_,hne⟩:=pj (z:=z) hg hs (k:=k) (by omega) ho
      have hp:pathsN (iq (bc t s z k).1 (t.nodes.getD k default).path z)=(pathsN (bc t s z k).1).eraseIdx (place (pathsN (bc t s z k).1) (nd t k).path):=by
        unfold iq;rw [mP,cy];rfl
      refine ⟨by rw [hp];exact iw ih.rises _,fun j hj hj2=>?_,fun j hj hjo=>?_,?_,?_⟩
      · rw [hp]
        refine je (ih.rest j (by omega) hj2) ?_
        rw [hpf.2]
        have:=bd (aV hg) (i:=k) (j:=j) (by omega) (by rw [aR];exact hj2)
        rw [aW,aW] at this
        intro e;rw [e] at this;exact List.lt_irrefl _ this
      · rw [hp]
        refine je (ih.dirs j hj hjo) ?_
        rw [hpf.2];exact (hne j hj).symm
      · have hl:=hpf.1
        rw [bh] at hl
        show (iq _ _ _).length≤_
        unfold iq
        rw [qM]
        have:=dJ _ _ hl
        unfold nd at this
        rw [this]
        have:=ih.len;omega
      · show ((bc t s z k).2++nj _).length≤_
        rw [List.length_append];have:=ih.elen
        unfold nj;simp only [List.length_cons,List.length_nil];omega
    · rw [if_neg ho]
      exact ⟨ih.rises,fun j hj hj2=>ih.rest j (by omega) hj2,ih.dirs,ih.len,by have:=ih.elen;omega⟩
set_option maxHeartbeats 8000000 in
theorem HP (t:ATree) (x:ATxn) (hw:t.wf) (hp:okS x.path) (hd:okS x.data) (h0:cT t x=0) (o2:x.op=2):ab Tryz.prog [] 32 [t.av,x.av] (ret (.tup [(ar t x).1.av,.d (.sl 2 ((ar t x).2.1.map AEvent.row)),I (ar t x).2.2])):=by
  have hwc:=lV t x hw hp hd
  obtain ⟨g1,g2,g3,g4,g5,g6,g7,g8⟩:=d5 h0
  obtain ⟨h1,h2⟩:t.nodes.length*88≤140737488351232∧t.sessions.length*8≤140737488351232:=⟨hw.2.1.1,hw.2.2.1⟩
  have hcp:=jm t h1 h2
  have h400:t.nodes.length≤400:=(dj g1).2.1
  rw [h0] at hwc
  have hri:fy t.sessions:=jk g1
  have ms:=g5 (by omega)
  have hb1:=(vr t.sessions x.session h2 hri).re (by rw [decide_eq_true ms])
  have hpl:aT t.sessions x.session < (t.sessions.map cW).length:=by rw [List.length_map];exact tP hri ms
  have hpl2:aT t.sessions x.session < t.sessions.length:=by rw [List.length_map] at hpl;exact hpl
  have hdone:(dn t x)=(⟨x.zxid,(bc t x.session x.zxid t.nodes.length).1,t.sessions.eraseIdx (aT t.sessions x.session)⟩,(bc t x.session x.zxid t.nodes.length).2):=by unfold dn;rw [if_neg (by omega),if_pos o2]
  generalize hN:t.sessions.eraseIdx (aT t.sessions x.session)=ss1 at hdone
  have hl1:ss1.length=t.sessions.length - 1:=by rw [←hN,dJ _ _ hpl2]
  refine zJ Tryz.func32 Tryz.ntmps32 Tryz.results32 ?_;simp only [go_sem]
  (refine zW qw (z4 hwc hcp hb1 (ow (Ft (t.sessions.map cW) (aT t.sessions x.session) hpl (by rw [List.length_map];omega)))) (zx @o2 (zx @df (zx @hN @hl1))) (z1 ?_)<;>(repeat with_reducible intro hc))
  refine AWP.weaken (aF.nilOwnC 5 3 2 rfl rfl) ?_
  simp only [go_sem]
  refine AWP.loopB (ι:=Nat) (fun k=>k≤t.nodes.length) (fun k=>t.nodes.length - k) [3,4,8,90,91] (fun k=>[(92,I k)]) (fun k=>[.cells [.d (.int .i64 t.zxid),.d (.sl 9 (t.nodes.map ANode.row)),.d (.sl 1 (t.sessions.map cW))],.cells [I x.zxid,I 2,I x.session,S x.path,S x.data,I x.version,I x.owner],.cells [I 0,.d (.sc (.slice none 0 0)),.d (.sc (.slice none 0 0))],.rows 9 ((bc t x.session x.zxid k).1.map ANode.row),.dead,.cells [I x.zxid,.osl 3 9 0 (bc t x.session x.zxid k).1.length,.osl 6 1 0 (t.sessions.length - 1),.osl 7 2 0 (bc t x.session x.zxid k).2.length],.rows 1 (ss1.map cW),.rows 2 ((bc t x.session x.zxid k).2.map AEvent.row)]) 0 ?_ ?_ ?_
  · omega
  · simp only [go_sem,bc];exact zSm trivial
  intro k hk
  have ci:=nB (z:=x.zxid) g1 (eT g2).2.2.1 k hk
  have hnext:bc t x.session x.zxid (k+1)=if (t.nodes.getD k default).stat.owner=x.session then (iq (bc t x.session x.zxid k).1 (t.nodes.getD k default).path x.zxid,(bc t x.session x.zxid k).2++nj (t.nodes.getD k default).path) else bc t x.session x.zxid k:=rfl
  simp only [go_sem]
  by_cases hkk:k < t.nodes.length
  case neg=>
    obtain rfl:k=t.nodes.length:=by omega
    generalize bc t x.session x.zxid t.nodes.length=cl at ci hdone
    obtain ⟨ns,es⟩:=cl
    have hcc:=ij ns (by have:=ci.len;simp only at this;omega)
    have tks:List.take (t.sessions.length - 1) (ss1.map cW)=ss1.map cW:=List.take_of_length_le (by rw [List.length_map];omega)
    (repeat' first
  | (with_reducible refine AR.f ?_)
  | refine ap (by decide) ?_
  | (with_reducible refine AWP.cond rfl ?_ ?_<;>intro hc<;>(try simp only [hcs,beq_iff_eq,ge_iff_le,gt_iff_lt] at hc))
  | ((first | ((first | refine zP ((Plan.takes [0,1,2,3,4,5,6] (.fork 7 (Plan.takes [8,9,10] .done) 8 (Plan.takes [7,9,10] .done)))) (by decide +kernel) ?_ | (with_reducible first | refine zR ?_ | refine zQ (by decide +kernel) ?_ | refine zD (by decide +kernel) ?_ | refine zE (by decide +kernel) ?_ | refine zG (by decide +kernel) ?_));intro K hK) | ((first | refine zA hcc ?_ ?_ ?_ ?_ ?_);(focus exact rfl);(focus exact rfl);iterate 2 (focus ((try simp (disch:=omega) only [go_sem,aa])<;>(try omega)<;>fail))) | ((first | refine zX hcc rfl ?_ ?_);(focus ((try simp (disch:=omega) only [go_sem,aa])<;>(try omega)<;>fail))) | ((first | (with_reducible refine aunder_i ?_ ?_<;>intro hg) | with_reducible intro hg)<;>(first | (exfalso;simp at hg;done) | (have hg':=hg;(try simp only [hcs,beq_iff_eq,ge_iff_le,gt_iff_lt] at hg');(try simp only [hg])))))<;>(try simp (disch:=omega) only [go_sem,aa])<;>(repeat' with_reducible refine And.intro ?_ ?_)<;>(try (with_reducible refine hK _ ?_;clear hK K)))
  | omega)
    all_goals first
      | (rw [eO h0 (by rw [hdone];exact hc)];(refine zE2 dfl ?_;(try simp (disch:=omega) only [go_sem,aa,dfl,I,B,S,zj]));done)
      | (rw [g0 h0 (by rw [hdone];exact hc),hdone];(refine zE2 (zx @tks (zx @I.eq_1 @S.eq_1)) ?_;(try simp (disch:=omega) only [go_sem,aa,tks,I,S,I,B,S,zj]));done)
  by_cases how:(t.nodes.getD k default).stat.owner=x.session
  · rw [if_pos how] at hnext
    have hone:=pj (z:=x.zxid) g1 (eT g2).2.2.1 hkk how
    have hokp:=(xa hw k).1
    have hm:=ci.rest k (Nat.le_refl _) hkk
    have hdir:=ci.dirs k hkk how
    have hr:=ci.rises
    have hlen:=ci.len
    have helen:=ci.elen
    clear ci
    unfold nd at hone hm hdir
    generalize bc t x.session x.zxid k=cl at hnext hm hdir hr hlen helen
    obtain ⟨ns,es⟩:=cl
    simp only at hnext hm hdir hr hlen helen
    generalize hpp:(t.nodes.getD k default).path=p at hnext hm hdir hone hokp
    have hf1:=(jW x.zxid ns ss1 p (by omega) hr).re (by rw [decide_eq_true hm])
    have hpf:=ao hr hm
    have hdpl:place (pathsN ns) p < (ns.map ANode.row).length:=by have:=hpf.1;rw [List.length_map];rwa [bh] at this
    have hdpl2:place (pathsN ns) p < ns.length:=by rw [List.length_map] at hdpl;exact hdpl
    generalize hM:ns.eraseIdx (place (pathsN ns) p)=ns1
    have hlm:ns1.length=ns.length - 1:=by rw [←hM,dJ _ _ hdpl2]
    have hp1:pathsN ns1=(pathsN ns).eraseIdx (place (pathsN ns) p):=by rw [←hM,cy]
    have hr1:aU (pathsN ns1):=by rw [hp1];exact iw hr _
    have hm1:dirP p∈pathsN ns1:=by rw [hp1];exact je hdir (by rw [hpf.2];exact hone.2.2.1.symm)
    have hq:=(ao hr1 hm1).1
    rw [bh] at hq
    have hadd:iq ns p x.zxid=ns1.set (place (pathsN ns1) (dirP p)) (kidF (-1) x.zxid (ns1.getD (place (pathsN ns1) (dirP p)) default)):=by unfold iq oW;rw [hM,if_pos hm1]
    have hf2:=(jW x.zxid ns1 ss1 (dirP p) (by omega) hr1).re (by rw [decide_eq_true hm1])
    rw [hadd] at hnext
    generalize hn2:ns1.set (place (pathsN ns1) (dirP p)) (kidF (-1) x.zxid (ns1.getD (place (pathsN ns1) (dirP p)) default))=ns2 at hnext
    have hl2:ns2.length=ns.length - 1:=by rw [←hn2,List.length_set,hlm]
    unfold kidF at hn2
    have e1:(af p).1.1=dirP p:=rfl
    have tk1:List.take (ns.length - 1) (ns1.map ANode.row)=ns1.map ANode.row:=List.take_of_length_le (by rw [List.length_map];omega)
    have tks:List.take (t.sessions.length - 1) (ss1.map cW)=ss1.map cW:=List.take_of_length_le (by rw [List.length_map];omega)
    (refine zW qw (zc (ic Tryz.func72) (zc (ic Tryz.func128) (z4 hf1 hf2 (split_c p hokp) (ow (u5 (ns.map ANode.row) (place (pathsN ns) p) hdpl (by rw [List.length_map];omega)))))) (zx @how (zx @hpp (zx @df (zx @hM (zx @hlm (zx @e1 (zx @hn2 (zx @hl2 (zx @tk1 (zx @tks (zx @ANode.rgetD (zx @bK (zx @ANode.rset (zx @aO (zx @List.set_set.{0} (zx @AEvent.rsnoc (zx @ef @tn))))))))))))))))) (z1 ?_)<;>(repeat with_reducible intro hc))
    refine ⟨k+1,by omega,by omega,?_⟩
    rw [hnext]
    exact zFr [0,1,2,9,4,5,6,13] (zx @nj.eq_1 (zx @List.length_append.{0} (zx @List.append_assoc.{0} (zx @List.cons_append.{0} (zx @List.nil_append.{0} (zx @hl2 (zx @tks (zx @Nat.add_assoc (zx @I.eq_1 @S.eq_1)))))))))
  · rw [if_neg how] at hnext
    (refine zW qw zn trivial (z1 ?_)<;>(repeat with_reducible intro hc))
    refine ⟨k+1,by omega,by omega,?_⟩
    rw [hnext]
    exact zFr [0,1,2,3,4,5,6,7] trivial
theorem gE (t:ATree) (x:ATxn) (hw:t.wf) (hp:okS x.path) (hd:okS x.data):ab Tryz.prog [] 32 [t.av,x.av] (ret (.tup [(ar t x).1.av,.d (.sl 2 ((ar t x).2.1.map AEvent.row)),I (ar t x).2.2])):=by
  by_cases h0:cT t x=0
  case neg=>
    have hwc:=lV t x hw hp hd
    rw [oe h0]
    refine zJ Tryz.func32 Tryz.ntmps32 Tryz.results32 ?_;simp only [go_sem]
    (refine zW qw (z1 hwc) trivial (z1 ?_)<;>(repeat with_reducible intro hc))
    all_goals first | (exfalso;omega) | skip
    exact zEe dfl
  obtain ⟨o1,o2,_,_⟩:=eT (d5 h0).2.1
  rcases (by omega:x.op=1∨x.op=2∨x.op=3∨x.op=4∨x.op=5) with o | o | o | o | o
  · exact IG t x hw hp hd h0 o
  · exact HP t x hw hp hd h0 o
  · exact E7 t x hw hp hd h0 o
  · exact H5 t x hw hp hd h0 o
  · exact In t x hw hp hd h0 o
attribute [go_sem] Tryz.ntmps218 Tryz.results218
attribute [go_sem] Tryz.ntmps218 Tryz.results218
attribute [go_sem] Tryz.ntmps218 Tryz.results218
attribute [go_sem] Tryz.ntmps218 Tryz.results218
attribute [go_sem] Tryz.ntmps218 Tryz.results218
def GG (l:List Int) (key:Int):List Int:=l.filter fun s=>decide (s < key)
def Hj (l:List Int) (key:Int):List Int:=l.filter fun s=>decide (key < s)
theorem za {l:List Int} {key:Int} (hr:fy l) (h:¬ key∈l):GG l key++key::Hj l key=l.insertIdx (aT l key) key:=by
  have hp:aT l key≤l.length:=List.findIdx_le_length
  have gd (j:Nat) (hj:j < l.length):l.getD j default=l[j]:=by rw [List.getD_eq_getElem?_getD,List.getElem?_eq_getElem hj];rfl
  have lo:∀ j,j < aT l key→l.getD j default < key:=fun j hj=>by
    have:=List.not_of_lt_findIdx (p:=fun x=>!decide (x < key)) (xs:=l) hj
    rw [gd j (by omega)]
    simpa using this
  have hi:∀ j,aT l key≤j→j < l.length→key < l.getD j default:=fun j h1 h2=>by
    have a:¬ l.getD (aT l key) default < key:=by
      have:=List.findIdx_getElem (p:=fun x=>!decide (x < key)) (xs:=l) (w:=(by unfold aT at h1;omega))
      rw [Bool.not_eq_true',decide_eq_false_iff_not] at this
      rw [gd _ (by omega)]
      exact this
    have c:l.getD (aT l key) default≠key:=fun e=>h (by rw [←e];exact cu _ _ (by omega))
    by_cases e:aT l key=j
    · rw [←e];omega
    · have:=eh hr (i:=aT l key) (j:=j) (by omega) h2;omega
  generalize aT l key=p at *
  have e1:GG l key=l.take p:=by
    unfold GG
    conv=>lhs;rw [←List.take_append_drop p l]
    rw [List.filter_append]
    have a1:(l.take p).filter (fun s=>decide (s < key))=l.take p:=by
      rw [List.filter_eq_self]
      intro f hf
      obtain ⟨j,hj,rfl⟩:=List.mem_take_iff_getElem.1 hf
      have:=lo j (by omega)
      rw [gd j (by omega)] at this;simpa using this
    have a2:(l.drop p).filter (fun s=>decide (s < key))=[]:=by
      rw [List.filter_eq_nil_iff]
      intro f hf
      obtain ⟨j,hj,rfl⟩:=List.mem_drop_iff_getElem.1 hf
      have:=hi (p+j) (by omega) (by omega)
      rw [gd _ (by omega)] at this
      rw [decide_eq_true_eq];omega
    rw [a1,a2,List.append_nil]
  have e2:Hj l key=l.drop p:=by
    unfold Hj
    conv=>lhs;rw [←List.take_append_drop p l]
    rw [List.filter_append]
    have a1:(l.drop p).filter (fun s=>decide (key < s))=l.drop p:=by
      rw [List.filter_eq_self]
      intro f hf
      obtain ⟨j,hj,rfl⟩:=List.mem_drop_iff_getElem.1 hf
      have:=hi (p+j) (by omega) (by omega)
      rw [gd _ (by omega)] at this;simpa using this
    have a2:(l.take p).filter (fun s=>decide (key < s))=[]:=by
      rw [List.filter_eq_nil_iff]
      intro f hf
      obtain ⟨j,hj,rfl⟩:=List.mem_take_iff_getElem.1 hf
      have:=lo j (by omega)
      rw [gd _ (by omega)] at this
      rw [decide_eq_true_eq];omega
    rw [a1,a2,List.nil_append]
  rw [e1,e2,eD _ _ _ hp]
attribute [go_sem] Tryz.ntmps218 Tryz.results218
def BY (l:List Int) (key:Int):List Int:=l.filter fun s=>decide (s≠key)
theorem yL {l:List Int} {key:Int} (hr:fy l) (h:key∈l):l.getD (aT l key) default=key:=by
  obtain ⟨k,hk,e⟩:=List.mem_iff_getElem.1 h
  have e2:l.getD k default=key:=by rw [List.getD_eq_getElem?_getD,List.getElem?_eq_getElem hk];exact e
  have:aT l key=k:=po (by omega) (fun j hj=>by rw [←e2];exact eh hr hj hk) (fun _=>by rw [e2];omega)
  rw [this,e2]
theorem tg {l:List Int} {key:Int} (hr:fy l) (h:key∈l):BY l key=l.eraseIdx (aT l key):=by
  have hpl:aT l key < l.length:=tP hr h
  have hpk:l.getD (aT l key) default=key:=yL hr h
  generalize aT l key=p at *
  have hne:∀ j,j < l.length→j≠p→l.getD j default≠key:=fun j hj hjp e=>by
    rcases Nat.lt_or_gt_of_ne hjp with h1 | h1
    · have:=eh hr h1 hpl;omega
    · have:=eh hr h1 hj;omega
  have hs:l=l.take p++l.getD p default::l.drop (p+1):=by
    rw [List.getD_eq_getElem?_getD,List.getElem?_eq_getElem hpl]
    simp
  have h1:(l.take p).filter (fun f=>decide (f≠key))=l.take p:=by
    rw [List.filter_eq_self]
    intro f hf
    obtain ⟨j,hj,rfl⟩:=List.mem_take_iff_getElem.1 hf
    have:=hne j (by omega) (by omega)
    rw [List.getD_eq_getElem?_getD,List.getElem?_eq_getElem (by omega)] at this
    simpa using this
  have h2:(l.drop (p+1)).filter (fun f=>decide (f≠key))=l.drop (p+1):=by
    rw [List.filter_eq_self]
    intro f hf
    obtain ⟨j,hj,rfl⟩:=List.mem_drop_iff_getElem.1 hf
    have:=hne (p+1+j) (by omega) (by omega)
    rw [List.getD_eq_getElem?_getD,List.getElem?_eq_getElem (by omega)] at this
    simpa using this
  rw [gc]
  unfold BY
  conv=>lhs;rw [hs]
  rw [List.filter_append,List.filter_cons_of_neg (by simp only [hpk];simp),h1,h2]
def okN (n:ANode):Prop:=n.wf∧n.path.length≤1048576
def okT (t:ATree):Prop:=t.wf∧∀ n,n∈t.nodes→n.path.length≤1048576
theorem ry (z:Int):okI (IntKind.i64.wrap z):=by rw [IntKind.wrap_i64];unfold okI;omega
theorem Cc {ns:List ANode} {p:List UInt8} {m z:Int} (h:∀ n,n∈ns→okN n) (hz:okI z):∀ n,n∈oW ns p m z→okN n:=by
  unfold oW
  split
  · rename_i hm
    intro n hn
    rcases List.mem_or_eq_of_mem_set hn with a | rfl
    · exact h n a
    · by_cases hl:place (pathsN ns) (dirP p) < ns.length
      · obtain ⟨⟨a1,a2,b1,b2,b3,b4,b5,b6,b7⟩,c⟩:=h _ (cu ns default hl)
        exact ⟨⟨a1,a2,b1,b2,hz,b4,ry _,b6,ry _⟩,c⟩
      · rw [List.set_eq_of_length_le (by omega)] at hn
        exact h _ hn
  · exact h
theorem Ch {ns:List ANode} {p:List UInt8} {z:Int} (h:∀ n,n∈ns→okN n) (hz:okI z):∀ n,n∈iq ns p z→okN n:=
  Cc (fun n hn=>h n (List.mem_of_mem_eraseIdx hn)) hz
theorem pl {t:ATree} {s z:Int} (h:∀ n,n∈t.nodes→okN n) (hz:okI z):∀ k n,n∈(bc t s z k).1→okN n
  | 0=>h
  | k+1=>by
    unfold bc
    split
    · exact Ch (pl h hz k) hz
    · exact pl h hz k
theorem ym {α:Type} {l:List α} {i:Nat} {x y:α} (h:i≤l.length) (hy:y∈l.insertIdx i x):y=x∨y∈l:=(List.mem_insertIdx h).1 hy
theorem BK {α:Type} (l:List α) (i:Nat) (x:α) (h:i≤l.length):(l.insertIdx i x).length=l.length+1:=by rw [List.length_insertIdx,if_pos h]
theorem Jq {t:ATree} {x:ATxn} (h:okT t) (hx:x.wf) (hp:x.path.length≤1048576) (h0:cT t x=0):okT (dn t x).1:=by
  obtain ⟨g1,g2,g3,g4,g5,g6,g7,g8⟩:=d5 h0
  obtain ⟨⟨w1,⟨w2,w3⟩,w4,w5⟩,hb⟩:=h
  obtain ⟨x1,x2,x3,x4,x5,x6,x7⟩:=hx
  have hN:∀ n,n∈t.nodes→okN n:=fun n hn=>⟨w3 n hn,hb n hn⟩
  have h400:t.nodes.length≤400:=(dj g1).2.1
  have hss:=qX g1
  have fin:∀ ns:List ANode,∀ ss:List Int,ns.length≤401→ss.length≤2147483648→(∀ n,n∈ns→okN n)→(∀ s,s∈ss→okI s)→okT ⟨x.zxid,ns,ss⟩:=fun ns ss a b c d=>
    ⟨⟨x1,⟨by show ns.length*88≤_;omega,fun n hn=>(c n hn).1⟩,by show ss.length*8≤_;omega,d⟩,fun n hn=>(c n hn).2⟩
  unfold dn
  split
  · exact fin _ _ (by omega) (by rw [BK _ _ _ (show aT t.sessions x.session≤_ from List.findIdx_le_length)];omega) hN (fun s hs=>by
      rcases ym List.findIdx_le_length hs with rfl | a
      · exact x3
      · exact w5 _ a)
  split
  · exact fin _ _ (Nat.le_trans (nB (z:=x.zxid) g1 (eT g2).2.2.1 _ (Nat.le_refl _)).len (by omega)) (Nat.le_trans (List.length_eraseIdx_le _ _) (by omega)) (pl hN x1 _) (fun s hs=>w5 s (List.mem_of_mem_eraseIdx hs))
  split
  · rename_i o3
    have hpl:place (pathsN t.nodes) x.path≤t.nodes.length:=by have:=fW (pathsN t.nodes) x.path;rwa [bh] at this
    refine fin _ _ ?_ (by omega) ?_ w5
    · unfold rb;rw [qM,BK _ _ _ hpl];have:=(g6 o3).2.2;omega
    · refine Cc (fun n hn=>?_) x1
      rcases ym hpl hn with rfl | a
      · exact ⟨⟨x4,x5,x1,x1,x1,⟨by show (_:Int)≤0;decide,by show (0:Int)≤_;decide⟩,⟨by show (_:Int)≤0;decide,by show (0:Int)≤_;decide⟩,x7,⟨by show (_:Int)≤0;decide,by show (0:Int)≤_;decide⟩⟩,hp⟩
      · exact hN n a
  split
  · refine fin _ _ ?_ (by omega) (Ch hN x1) w5
    unfold iq;rw [qM];exact Nat.le_trans (List.length_eraseIdx_le _ _) (by omega)
  · obtain ⟨o1,o2,_,_⟩:=eT g2
    have hq:=(ao (aV g1) (g8 (by omega))).1
    rw [aR] at hq
    refine fin _ _ (by unfold setN;rw [List.length_set];omega) (by omega) (fun n hn=>?_) w5
    rcases List.mem_or_eq_of_mem_set hn with a | rfl
    · exact hN n a
    · obtain ⟨⟨a1,a2,b1,b2,b3,b4,b5,b6,b7⟩,c⟩:=hN _ (cu t.nodes default (k:=place (pathsN t.nodes) x.path) hq)
      exact ⟨⟨a1,x5,b1,x1,b3,x6,b5,b6,b7⟩,c⟩
theorem Ds {t:ATree} {x:ATxn} (h:okT t) (hx:x.wf) (hp:x.path.length≤1048576):okT (ar t x).1:=by
  have hd:okT (default:ATree):=⟨⟨by unfold okI;decide,⟨by decide,fun _ h=>by cases h⟩,by decide,fun _ h=>by cases h⟩,fun _ h=>by cases h⟩
  unfold ar
  split
  · exact hd
  · rename_i h0
    split
    · exact hd
    · exact Jq h hx hp (Classical.not_not.1 h0)
theorem FM {t:ATree} {x:ATxn}:(ar t x).2.1.length≤1000:=by
  unfold ar
  split
  · exact Nat.zero_le _
  · rename_i h0
    have h0:=Classical.not_not.1 h0
    obtain ⟨g1,g2,g3,g4,g5,g6,g7,g8⟩:=d5 h0
    have h400:t.nodes.length≤400:=(dj g1).2.1
    split
    · exact Nat.zero_le _
    · show (dn t x).2.length≤_
      unfold dn
      split
      · exact Nat.zero_le _
      split
      · have:=(nB (z:=x.zxid) g1 (eT g2).2.2.1 _ (Nat.le_refl _)).elen
        simp only;omega
      split
      · show 2≤_;omega
      split
      · show 2≤_;omega
      · show 1≤_;omega
theorem qSs2:Pls [Plan.takes [1,2] (.forks 0 (.fork 3 (Plan.takes [4,5,6,7,8] .done) 5 (Plan.takes [3,4,6,7,8] .done)) 3 (Plan.takes [4] (.fork 0 (Plan.takes [5,6,7,8] .done) 5 (Plan.takes [0,6,7,8] .done))) 5 (Plan.takes [0,3,4,6,7,8] .done))]:=pls _
def bi (s:AServer) (x:ATxn) (safe:Bool):AServer×Int:=
  if x.zxid≤ax s.peer.log then (default,13) else if (da s.disk.files x safe).2=0 then (⟨s.up,(da s.disk.files x safe).1,⟨s.peer.id,s.peer.epoch,s.peer.log++[x],s.peer.done⟩,s.tree,s.watches⟩,0) else (default,(da s.disk.files x safe).2)
def bs (s:AServer) (keep:Int):AServer×Int:=
  if (fD s.disk.files keep).2=0 then (⟨false,(fD s.disk.files keep).1,⟨s.peer.id,0,[],0⟩,t00,[]⟩,0) else (default,(fD s.disk.files keep).2)
theorem lb (l:List ATxn) (x:ATxn):l.map ATxn.row++[[.int .i64 x.zxid,.int .i64 x.op,.int .i64 x.session,.str x.path,.str x.data,.int .i64 x.version,.int .i64 x.owner]]=(l++[x]).map ATxn.row:=by rw [List.map_append];rfl
theorem lg (l:List ATxn) (x:ATxn):List.take (l.length+1) ((l++[x]).map ATxn.row)=(l++[x]).map ATxn.row:=List.take_of_length_le (by simp)
set_option maxHeartbeats 8000000 in
theorem Af (s:AServer) (x:ATxn) (safe:Bool) (hw:s.wf) (hx:x.wf) (hl:s.peer.log.length≤1048576):ab Tryz.prog [] 106 [s.av,x.av,B safe] (ret (.tup [(bi s x safe).1.av,I (bi s x safe).2])):=by
  obtain ⟨_,h1,h2,h3,h4⟩:=hw
  have hlast:=last_c s.peer.log h2.2.2.1.1
  have ha:=EG s.disk x safe h1.1 h1.2 hx.2.2.2.1 hx.2.2.2.2.1
  unfold bi
  generalize da s.disk.files x safe=q at ha ⊢
  obtain ⟨d2,e⟩:=q
  simp only at ha ⊢
  refine zJ Tryz.func106 Tryz.ntmps106 Tryz.results106 ?_;simp only [go_sem]
  (repeat' first
| (with_reducible refine AR.f ?_)
| refine ap (by decide) ?_
| (with_reducible refine AWP.cond rfl ?_ ?_<;>intro hc<;>(try simp only [hcs,beq_iff_eq,ge_iff_le,gt_iff_lt] at hc))
| ((first | ((first | refine zP ((Plan.takes [0,2,3,4] (.fork 1 (Plan.takes [5,6] .done) 5 (Plan.takes [1,6] .done)))) (by decide +kernel) ?_ | refine zP ((Plan.takes [0,1,6,7] (.forks 2 (Plan.takes [3,4] (.forks 5 (.fork 8 (.fork 9 (Plan.takes [10,11,12,13,14,15] .done) 10 (.fork 9 (Plan.takes [11,12,13,14,15] .done) 11 (Plan.takes [9,12,13,14,15] .done))) 10 (.fork 8 (.fork 9 (Plan.takes [11,12,13,14,15] .done) 11 (Plan.takes [9,12,13,14,15] .done)) 11 (Plan.takes [8,9,12,13,14,15] .done))) 8 (.fork 5 (.fork 9 (Plan.takes [10,11,12,13,14,15] .done) 10 (.fork 9 (Plan.takes [11,12,13,14,15] .done) 11 (Plan.takes [9,12,13,14,15] .done))) 10 (.fork 5 (.fork 9 (Plan.takes [11,12,13,14,15] .done) 11 (Plan.takes [9,12,13,14,15] .done)) 11 (Plan.takes [5,9,12,13,14,15] .done))) 10 (.forks 5 (.fork 8 (.fork 9 (Plan.takes [11,12,13,14,15] .done) 11 (Plan.takes [9,12,13,14,15] .done)) 11 (Plan.takes [8,9,12,13,14,15] .done)) 8 (.fork 5 (.fork 9 (Plan.takes [11,12,13,14,15] .done) 11 (Plan.takes [9,12,13,14,15] .done)) 11 (Plan.takes [5,9,12,13,14,15] .done)) 11 (.fork 5 (Plan.takes [8,9,12,13,14,15] .done) 8 (Plan.takes [5,9,12,13,14,15] .done))))) 8 (.fork 2 (Plan.takes [3,4] (.fork 5 (.fork 9 (Plan.takes [10,11,12,13,14,15] .done) 10 (.fork 9 (Plan.takes [11,12,13,14,15] .done) 11 (Plan.takes [9,12,13,14,15] .done))) 10 (.fork 5 (.fork 9 (Plan.takes [11,12,13,14,15] .done) 11 (Plan.takes [9,12,13,14,15] .done)) 11 (Plan.takes [5,9,12,13,14,15] .done)))) 10 (.fork 2 (Plan.takes [3,4] (.fork 5 (.fork 9 (Plan.takes [11,12,13,14,15] .done) 11 (Plan.takes [9,12,13,14,15] .done)) 11 (Plan.takes [5,9,12,13,14,15] .done))) 11 (Plan.takes [2,3,4,5,9,12,13,14,15] .done))) 10 (.forks 2 (Plan.takes [3,4] (.forks 5 (.fork 8 (.fork 9 (Plan.takes [11,12,13,14,15] .done) 11 (Plan.takes [9,12,13,14,15] .done)) 11 (Plan.takes [8,9,12,13,14,15] .done)) 8 (.fork 5 (.fork 9 (Plan.takes [11,12,13,14,15] .done) 11 (Plan.takes [9,12,13,14,15] .done)) 11 (Plan.takes [5,9,12,13,14,15] .done)) 11 (.fork 5 (Plan.takes [8,9,12,13,14,15] .done) 8 (Plan.takes [5,9,12,13,14,15] .done)))) 8 (.fork 2 (Plan.takes [3,4] (.fork 5 (.fork 9 (Plan.takes [11,12,13,14,15] .done) 11 (Plan.takes [9,12,13,14,15] .done)) 11 (Plan.takes [5,9,12,13,14,15] .done))) 11 (Plan.takes [2,3,4,5,9,12,13,14,15] .done)) 11 (Plan.takes [2,3,4] (.fork 5 (Plan.takes [8,9,12,13,14,15] .done) 8 (Plan.takes [5,9,12,13,14,15] .done))))))) (by decide +kernel) ?_ | (with_reducible first | refine zR ?_ | refine zQ (by decide +kernel) ?_ | refine zD (by decide +kernel) ?_ | refine zE (by decide +kernel) ?_ | refine zG (by decide +kernel) ?_));intro K hK) | ((first | refine zA hlast ?_ ?_ ?_ ?_ ?_ | refine zA ha ?_ ?_ ?_ ?_ ?_);(focus exact rfl);(focus exact rfl);iterate 2 (focus ((try simp (disch:=omega) only [go_sem,aa,lb,lg])<;>(try omega)<;>fail))) | ((first | refine zN ha rfl ?_ ?_ | refine zX hlast rfl ?_ ?_ | refine zX ha rfl ?_ ?_ | refine zY ha ?_ ?_);(focus ((try simp (disch:=omega) only [go_sem,aa,lb,lg])<;>(try omega)<;>fail))) | ((first | (with_reducible refine aunder_i ?_ ?_<;>intro hg) | with_reducible intro hg)<;>(first | (exfalso;simp at hg;done) | (have hg':=hg;(try simp only [hcs,beq_iff_eq,ge_iff_le,gt_iff_lt] at hg');(try simp only [hg])))))<;>(try simp (disch:=omega) only [go_sem,aa,lb,lg])<;>(repeat' with_reducible refine And.intro ?_ ?_)<;>(try (with_reducible refine hK _ ?_;clear hK K)))
| omega)
  all_goals first
    | (rw [if_pos (by omega)];(refine zE2 dfl ?_;(try simp (disch:=omega) only [go_sem,aa,dfl,I,B,S,zj]));done)
    | (rw [if_neg (by omega),if_neg (by omega)];(refine zE2 dfl ?_;(try simp (disch:=omega) only [go_sem,aa,dfl,I,B,S,zj]));done)
    | (rw [if_neg (by omega),if_pos (by omega)];(refine zE2 (zx @I.eq_1 (zx @S.eq_1 (zx @lb @lg))) ?_;(try simp (disch:=omega) only [go_sem,aa,I,S,lb,lg,I,B,S,zj]));done)
set_option maxHeartbeats 8000000 in
theorem Ik (s:AServer) (keep:Int) (hw:s.wf):ab Tryz.prog [] 118 [s.av,I keep] (ret (.tup [(bs s keep).1.av,I (bs s keep).2])):=by
  obtain ⟨_,h1,h2,h3,h4⟩:=hw
  have ha:=KJ s.disk keep h1.1 h1.2
  unfold bs
  generalize fD s.disk.files keep=q at ha ⊢
  obtain ⟨d2,e⟩:=q
  simp only at ha ⊢
  refine zJ Tryz.func118 Tryz.ntmps118 Tryz.results118 ?_;simp only [go_sem]
  (refine zW qw (z3 qSs2 ha KY) trivial (zc ?_ (zc ?_ (z4 ?_ ?_ ?_ ?_)))<;>(repeat with_reducible intro hc))
  all_goals first
    | (rw [if_neg (by omega)];(refine zE2 dfl ?_;(try simp (disch:=omega) only [go_sem,aa,dfl,I,B,S,zj]));done)
    | (rw [if_pos (by omega)];(refine zE2 (zx @I.eq_1 (zx @S.eq_1 @t00.eq_1)) ?_;(try simp (disch:=omega) only [go_sem,aa,I,S,t00,I,B,S,zj]));done)
def rH (t:ATree) (r:ARequest):Int:=
  if bA r.path=true then (if r.session∈t.sessions then (if (aP t r.path).2=0 then (if ¬ r.version=-1∧¬ r.version=(aP t r.path).1.stat.version then 9 else 0) else (aP t r.path).2) else 12) else 2
def pm (r:ARequest):List UInt8:=(af r.path).1.1
def qa (t:ATree) (r:ARequest):List UInt8×Int:=fe (af r.path).1.2 (aP t (pm r)).1.stat.cversion
def kB (t:ATree) (r:ARequest):Int:=
  if r.flags < 0∨3 < r.flags then 3 else if (af r.path).2=0 then (if r.session∈t.sessions then (if 2≤r.flags then (if (aP t (pm r)).2=0 then (if (qa t r).2=0 then (ev (pm r) (qa t r).1).2 else (qa t r).2) else (aP t (pm r)).2) else 0) else 12) else 2
def qd (t:ATree) (r:ARequest):List UInt8:=if 2≤r.flags then (ev (pm r) (qa t r).1).1 else r.path
def qc (r:ARequest):Int:=if r.flags=1∨r.flags=3 then r.session else 0
def eL (t:ATree) (z:Int) (r:ARequest):ATxn×Int:=
  if r.op=1∨r.op=2 then (⟨z,r.op,r.session,[],[],0,0⟩,0)
  else if r.op=3 then (⟨z,3,r.session,qd t r,r.data,0,qc r⟩,kB t r)
  else if r.op=4 then (⟨z,4,r.session,r.path,[],0,0⟩,rH t r)
  else if r.op=5 then (⟨z,5,r.session,r.path,r.data,IntKind.i64.wrap ((aP t r.path).1.stat.version+1),0⟩,rH t r)
  else (default,4)
def jc (t:ATree) (z:Int) (r:ARequest):Prop:=aK t=true∧bU z∧1≤r.session∧r.session≤2147483647
instance (t:ATree) (z:Int) (r:ARequest):Decidable (jc t z r):=by unfold jc;infer_instance
def cA (t:ATree) (z:Int) (r:ARequest):ATxn×Int:=
  if jc t z r then (if (eL t z r).2=0 then (if (ar t (eL t z r).1).2.2=0 then ((eL t z r).1,0) else (default,(ar t (eL t z r).1).2.2)) else (default,(eL t z r).2)) else (default,3)
theorem KQ {t:ATree} {z:Int} {r:ARequest} (h:¬ jc t z r):cA t z r=(default,3):=by unfold cA;rw [if_neg h]
theorem fv {t:ATree} {z:Int} {r:ARequest} (h:jc t z r) {x:ATxn} {e:Int} (h2:eL t z r=(x,e)) (h3:¬ e=0):cA t z r=(default,e):=by unfold cA;rw [if_pos h,h2,if_neg h3]
theorem iB {t:ATree} {z:Int} {r:ARequest} (h:jc t z r) {x:ATxn} (h2:eL t z r=(x,0)):cA t z r=if (ar t x).2.2=0 then (x,0) else (default,(ar t x).2.2):=by unfold cA;rw [if_pos h,h2,if_pos rfl]
set_option maxHeartbeats 8000000 in
theorem tJ (t:ATree) (r:ARequest) (hw:t.wf) (hg:aK t=true) (hp:okS r.path):ab Tryz.prog [] 176 [t.av,r.av] (ret (.tup [I (if rH t r=0 then (aP t r.path).1.stat.version else 0),I (rH t r)])):=by
  have hr:=aV hg
  have hri:=jk hg
  refine zJ Tryz.func176 Tryz.ntmps176 Tryz.results176 ?_;simp only [go_sem]
  (refine zW qw (z3 (good_c r.path hp) (open_c t r.session hw.2.2.1 hri) (iO t r.path hw.2.1.1 hr)) trivial (zc ?_ (z4 ?_ ?_ ?_ ?_))<;>(repeat with_reducible intro hc))
  all_goals
    unfold rH
    (refine zE2 trivial ?_;(try simp (disch:=omega) only [go_sem,aa,I,B,S,zj]))
    try (repeat' split)
    all_goals first | rfl | omega | (exfalso;omega) | (exfalso;simp_all;done) | (simp_all;done)
theorem IZ (a b:List UInt8):(ev a b).1.length≤200:=by
  by_cases h:bA a=true∧ba b=true
  · by_cases h2:200 < (iW a b).length
    · rw [qK h.1 h.2 h2];exact Nat.zero_le _
    · rw [xu h.1 h.2 (by omega)];show (iW a b).length≤200;omega
  · rw [oG h];exact Nat.zero_le _
theorem x9 (s:List UInt8):(af s).1.1.length≤200∧(af s).1.2.length≤200:=by
  by_cases h:bA s=true
  case neg=>rw [tN h];exact ⟨by decide,by decide⟩
  rcases ne h with rfl | ⟨ps,p,hn,rfl,hl,hj⟩
  · rw [m8];exact ⟨by decide,by decide⟩
  · rw [mW hn hl]
    have hp:=wI (ps:=ps++[p]) ps.length hl
    rw [List.take_left'] at hp
    · refine ⟨hp,?_⟩
      rw [hj,List.length_append,List.length_cons] at hl
      show p.length≤200;omega
    · rfl
theorem Jh (a:List UInt8) (n:Int):(fe a n).1.length≤a.length+10:=by
  unfold fe
  split
  · exact Nat.zero_le _
  · split
    · show (rr a n.toNat).length≤_
      unfold rr;rw [List.length_append,wM];omega
    · exact Nat.zero_le _
theorem J8 {t:ATree} (hw:t.wf) (p:List UInt8):(aP t p).1.wf:=by
  have hd:(default:ANode).wf:=by unfold ANode.wf AStat.wf okS okI;decide
  unfold aP
  split
  · show ANode.wf _
    by_cases h:place (aL t) p < t.nodes.length
    · exact hw.2.1.2 _ (cu _ _ h)
    · show (t.nodes.getD _ default).wf
      rw [List.getD_eq_getElem?_getD,List.getElem?_eq_none (by omega)];exact hd
  · exact hd
theorem fZ {t:ATree} {z:Int} {r:ARequest} (h:okT t) (hr:r.wf) (hp:r.path.length≤1048576) (hz:okI z):(eL t z r).1.wf∧(eL t z r).1.path.length≤1048576:=by
  obtain ⟨r1,r2,r3,r4,r5,r6⟩:=hr
  have n0:okI 0:=⟨by decide,by decide⟩
  have s0:okS []:=Nat.zero_le _
  have n3:okI 3:=⟨by decide,by decide⟩
  have n4:okI 4:=⟨by decide,by decide⟩
  have n5:okI 5:=⟨by decide,by decide⟩
  unfold eL
  split
  · exact ⟨⟨hz,r1,r2,s0,s0,n0,n0⟩,Nat.zero_le _⟩
  split
  · have hc:(qd t r).length≤1048576:=by
      unfold qd;split
      · exact Nat.le_trans (IZ _ _) (by omega)
      · exact hp
    refine ⟨⟨hz,n3,r2,Nat.le_trans hc (by omega),r4,n0,?_⟩,hc⟩
    show okI (qc r)
    unfold qc;split
    · exact r2
    · exact n0
  split
  · exact ⟨⟨hz,n4,r2,r3,s0,n0,n0⟩,hp⟩
  split
  · exact ⟨⟨hz,n5,r2,r3,r4,ry _,n0⟩,hp⟩
  · exact ⟨⟨n0,n0,n0,s0,s0,n0,n0⟩,Nat.zero_le _⟩
theorem LT {t:ATree} {z:Int} {r:ARequest} (o:r.op=4):eL t z r=(⟨z,4,r.session,r.path,[],0,0⟩,rH t r):=by unfold eL;rw [if_neg (by omega),if_neg (by omega),if_pos o]
theorem Mk {t:ATree} {z:Int} {r:ARequest} (o:r.op=5):eL t z r=(⟨z,5,r.session,r.path,r.data,IntKind.i64.wrap ((aP t r.path).1.stat.version+1),0⟩,rH t r):=by unfold eL;rw [if_neg (by omega),if_neg (by omega),if_neg (by omega),if_pos o]
theorem Cm {t:ATree} {z:Int} {r:ARequest} (o:r.op=1∨r.op=2):eL t z r=(⟨z,r.op,r.session,[],[],0,0⟩,0):=by unfold eL;rw [if_pos o]
theorem L9 {t:ATree} {z:Int} {r:ARequest} (o:¬ (1≤r.op∧r.op≤5)):eL t z r=(default,4):=by unfold eL;rw [if_neg (by omega),if_neg (by omega),if_neg (by omega),if_neg (by omega)]
set_option maxHeartbeats 8000000 in
theorem JC (t:ATree) (z:Int) (r:ARequest) (ht:okT t) (hr:r.wf) (hp:r.path.length≤1048576) (hz:okI z) (hq:¬ jc t z r):ab Tryz.prog [] 105 [t.av,I z,r.av] (ret (.tup [(cA t z r).1.av,I (cA t z r).2])):=by
  have hgc:=jK t ht.1
  have hzc:=zgood_c z
  rw [KQ hq]
  unfold jc at hq
  generalize aK t=g at hq hgc
  refine zJ Tryz.func105 Tryz.ntmps105 Tryz.results105 ?_;simp only [go_sem]
  (repeat' first
| (with_reducible refine AR.f ?_)
| refine ap (by decide) ?_
| (with_reducible refine AWP.cond rfl ?_ ?_<;>intro hc<;>(try simp only [hcs,beq_iff_eq,ge_iff_le,gt_iff_lt] at hc))
| ((first | ((first | (with_reducible first | refine zR ?_ | refine zQ (by decide +kernel) ?_ | refine zD (by decide +kernel) ?_ | refine zE (by decide +kernel) ?_ | refine zG (by decide +kernel) ?_));intro K hK) | ((first | refine zA hgc ?_ ?_ ?_ ?_ ?_ | refine zA hzc ?_ ?_ ?_ ?_ ?_);(focus exact rfl);(focus exact rfl);iterate 2 (focus ((try simp (disch:=omega) only [go_sem,aa])<;>(try omega)<;>fail))) | ((first | refine zX hgc rfl ?_ ?_ | refine zX hzc rfl ?_ ?_);(focus ((try simp (disch:=omega) only [go_sem,aa])<;>(try omega)<;>fail))) | ((first | (with_reducible refine aunder_i ?_ ?_<;>intro hg) | with_reducible intro hg)<;>(first | (exfalso;simp at hg;done) | (have hg':=hg;(try simp only [hcs,beq_iff_eq,ge_iff_le,gt_iff_lt] at hg');(try simp only [hg])))))<;>(try simp (disch:=omega) only [go_sem,aa])<;>(repeat' with_reducible refine And.intro ?_ ?_)<;>(try (with_reducible refine hK _ ?_;clear hK K)))
| omega)
  all_goals first
    | ((refine zE2 dfl ?_;(try simp (disch:=omega) only [go_sem,aa,dfl,I,B,S,zj]));done)
    | (exfalso;exact hq ⟨by assumption,by assumption,by omega,by omega⟩)
    | (exfalso;simp_all;done)
    | (exfalso;simp_all;omega)
set_option maxHeartbeats 8000000 in
theorem IQ (t:ATree) (z:Int) (r:ARequest) (ht:okT t) (hr:r.wf) (hp:r.path.length≤1048576) (hz:okI z) (hq:jc t z r) (o:r.op=1∨r.op=2∨¬ (1≤r.op∧r.op≤5)):ab Tryz.prog [] 105 [t.av,I z,r.av] (ret (.tup [(cA t z r).1.av,I (cA t z r).2])):=by
  have hgc:=(jK t ht.1).re (congrArg B hq.1)
  have hzc:=(zgood_c z).re (congrArg B (decide_eq_true hq.2.1))
  obtain ⟨hs1,hs2⟩:=hq.2.2
  by_cases o1:r.op=1∨r.op=2
  · rcases o1 with o | o
    · have hx:=Cm (t:=t) (z:=z) (r:=r) (.inl o)
      rw [o] at hx
      have hxw:=fZ (z:=z) ht hr hp hz
      rw [hx] at hxw
      simp only at hxw
      have ha:=gE t ⟨z,1,r.session,[],[],0,0⟩ ht.1 hxw.1.2.2.2.1 hxw.1.2.2.2.2.1
      rw [iB hq (hx)]
      generalize ar t ⟨z,1,r.session,[],[],0,0⟩=q at ha ⊢
      obtain ⟨a,es,e⟩:=q
      simp only at ha ⊢
      refine zJ Tryz.func105 Tryz.ntmps105 Tryz.results105 ?_;simp only [go_sem]
      (refine zW qw (z3 hgc hzc ha) @o (z2 ?_ ?_)<;>(repeat with_reducible intro hc))
      all_goals first
        | (exfalso;omega)
        | (rw [if_pos (by omega)];(refine zE2 (zx @I.eq_1 @S.eq_1) ?_;(try simp (disch:=omega) only [go_sem,aa,I,S,I,B,S,zj]));done)
        | (rw [if_neg (by omega)];(refine zE2 dfl ?_;(try simp (disch:=omega) only [go_sem,aa,dfl,I,B,S,zj]));done)
    · have hx:=Cm (t:=t) (z:=z) (r:=r) (.inr o)
      rw [o] at hx
      have hxw:=fZ (z:=z) ht hr hp hz
      rw [hx] at hxw
      simp only at hxw
      have ha:=gE t ⟨z,2,r.session,[],[],0,0⟩ ht.1 hxw.1.2.2.2.1 hxw.1.2.2.2.2.1
      rw [iB hq (hx)]
      generalize ar t ⟨z,2,r.session,[],[],0,0⟩=q at ha ⊢
      obtain ⟨a,es,e⟩:=q
      simp only at ha ⊢
      refine zJ Tryz.func105 Tryz.ntmps105 Tryz.results105 ?_;simp only [go_sem]
      (refine zW qw (z3 hgc hzc ha) @o (z2 ?_ ?_)<;>(repeat with_reducible intro hc))
      all_goals first
        | (exfalso;omega)
        | (rw [if_pos (by omega)];(refine zE2 (zx @I.eq_1 @S.eq_1) ?_;(try simp (disch:=omega) only [go_sem,aa,I,S,I,B,S,zj]));done)
        | (rw [if_neg (by omega)];(refine zE2 dfl ?_;(try simp (disch:=omega) only [go_sem,aa,dfl,I,B,S,zj]));done)
  · have hx:=L9 (t:=t) (z:=z) (r:=r) (by omega)
    rw [fv hq hx (by decide)]
    refine zJ Tryz.func105 Tryz.ntmps105 Tryz.results105 ?_;simp only [go_sem]
    (refine zW qw (z2 hgc hzc) trivial (z1 ?_)<;>(repeat with_reducible intro hc))
    all_goals first | (exfalso;omega) | ((refine zE2 dfl ?_;(try simp (disch:=omega) only [go_sem,aa,dfl,I,B,S,zj]));done)
set_option maxHeartbeats 8000000 in
theorem Kx (t:ATree) (z:Int) (r:ARequest) (ht:okT t) (hr:r.wf) (hp:r.path.length≤1048576) (hz:okI z) (hq:jc t z r) (o:r.op=4):ab Tryz.prog [] 105 [t.av,I z,r.av] (ret (.tup [(cA t z r).1.av,I (cA t z r).2])):=by
  have hgc:=(jK t ht.1).re (congrArg B hq.1)
  have hzc:=(zgood_c z).re (congrArg B (decide_eq_true hq.2.1))
  obtain ⟨hs1,hs2⟩:=hq.2.2
  have hx:=LT (t:=t) (z:=z) (r:=r) o
  have hvc:=tJ t r ht.1 hq.1 hr.2.2.1
  by_cases hv:rH t r=0
  case neg=>
    rw [fv hq hx hv]
    rw [if_neg hv] at hvc
    generalize rH t r=e at hv hvc ⊢
    refine zJ Tryz.func105 Tryz.ntmps105 Tryz.results105 ?_;simp only [go_sem]
    (refine zW qw (z3 hgc hzc hvc) @o (z1 ?_)<;>(repeat with_reducible intro hc))
    all_goals first | (exfalso;omega) | ((refine zE2 dfl ?_;(try simp (disch:=omega) only [go_sem,aa,dfl,I,B,S,zj]));done)
  rw [if_pos hv,hv] at hvc
  rw [hv] at hx
  have hxw:=fZ (z:=z) ht hr hp hz
  rw [hx] at hxw
  simp only at hxw
  have ha:=gE t ⟨z,4,r.session,r.path,[],0,0⟩ ht.1 hxw.1.2.2.2.1 hxw.1.2.2.2.2.1
  rw [iB hq (hx)]
  generalize ar t ⟨z,4,r.session,r.path,[],0,0⟩=q at ha ⊢
  obtain ⟨a,es,e⟩:=q
  simp only at ha ⊢
  refine zJ Tryz.func105 Tryz.ntmps105 Tryz.results105 ?_;simp only [go_sem]
  (refine zW qw (z4 hgc hzc hvc ha) @o (z2 ?_ ?_)<;>(repeat with_reducible intro hc))
  all_goals first
    | (exfalso;omega)
    | (rw [if_pos (by omega)];(refine zE2 (zx @I.eq_1 @S.eq_1) ?_;(try simp (disch:=omega) only [go_sem,aa,I,S,I,B,S,zj]));done)
    | (rw [if_neg (by omega)];(refine zE2 dfl ?_;(try simp (disch:=omega) only [go_sem,aa,dfl,I,B,S,zj]));done)
set_option maxHeartbeats 8000000 in
theorem Jd (t:ATree) (z:Int) (r:ARequest) (ht:okT t) (hr:r.wf) (hp:r.path.length≤1048576) (hz:okI z) (hq:jc t z r) (o:r.op=5):ab Tryz.prog [] 105 [t.av,I z,r.av] (ret (.tup [(cA t z r).1.av,I (cA t z r).2])):=by
  have hgc:=(jK t ht.1).re (congrArg B hq.1)
  have hzc:=(zgood_c z).re (congrArg B (decide_eq_true hq.2.1))
  obtain ⟨hs1,hs2⟩:=hq.2.2
  have hx:=Mk (t:=t) (z:=z) (r:=r) o
  have hvc:=tJ t r ht.1 hq.1 hr.2.2.1
  by_cases hv:rH t r=0
  case neg=>
    rw [fv hq hx hv]
    rw [if_neg hv] at hvc
    generalize rH t r=e at hv hvc ⊢
    refine zJ Tryz.func105 Tryz.ntmps105 Tryz.results105 ?_;simp only [go_sem]
    (repeat' first
  | (with_reducible refine AR.f ?_)
  | refine ap (by decide) ?_
  | (with_reducible refine AWP.cond rfl ?_ ?_<;>intro hc<;>(try simp only [hcs,beq_iff_eq,ge_iff_le,gt_iff_lt] at hc))
  | ((first | ((first | refine zP ((Plan.takes [0,1,2,4] (.fork 3 (Plan.takes [5,6,7] .done) 5 (Plan.takes [3,6,7] .done)))) (by decide +kernel) ?_ | (with_reducible first | refine zR ?_ | refine zQ (by decide +kernel) ?_ | refine zD (by decide +kernel) ?_ | refine zE (by decide +kernel) ?_ | refine zG (by decide +kernel) ?_));intro K hK) | ((first | refine zA hgc ?_ ?_ ?_ ?_ ?_ | refine zA hzc ?_ ?_ ?_ ?_ ?_ | refine zA hvc ?_ ?_ ?_ ?_ ?_);(focus exact rfl);(focus exact rfl);iterate 2 (focus ((try simp (disch:=omega) only [go_sem,aa,o])<;>(try omega)<;>fail))) | ((first | refine zX hgc rfl ?_ ?_ | refine zX hzc rfl ?_ ?_ | refine zX hvc rfl ?_ ?_);(focus ((try simp (disch:=omega) only [go_sem,aa,o])<;>(try omega)<;>fail))) | ((first | (with_reducible refine aunder_i ?_ ?_<;>intro hg) | with_reducible intro hg)<;>(first | (exfalso;simp at hg;done) | (have hg':=hg;(try simp only [hcs,beq_iff_eq,ge_iff_le,gt_iff_lt] at hg');(try simp only [hg])))))<;>(try simp (disch:=omega) only [go_sem,aa,o])<;>(repeat' with_reducible refine And.intro ?_ ?_)<;>(try (with_reducible refine hK _ ?_;clear hK K)))
  | omega)
    all_goals first | (exfalso;omega) | ((refine zE2 dfl ?_;(try simp (disch:=omega) only [go_sem,aa,dfl,I,B,S,zj]));done)
  rw [if_pos hv,hv] at hvc
  rw [hv] at hx
  have hxw:=fZ (z:=z) ht hr hp hz
  rw [hx] at hxw
  simp only at hxw
  have ha:=gE t ⟨z,5,r.session,r.path,r.data,IntKind.i64.wrap ((aP t r.path).1.stat.version+1),0⟩ ht.1 hxw.1.2.2.2.1 hxw.1.2.2.2.2.1
  rw [iB hq (hx)]
  generalize ar t ⟨z,5,r.session,r.path,r.data,IntKind.i64.wrap ((aP t r.path).1.stat.version+1),0⟩=q at ha ⊢
  obtain ⟨a,es,e⟩:=q
  simp only at ha ⊢
  refine zJ Tryz.func105 Tryz.ntmps105 Tryz.results105 ?_;simp only [go_sem]
  (repeat' first
| (with_reducible refine AR.f ?_)
| refine ap (by decide) ?_
| (with_reducible refine AWP.cond rfl ?_ ?_<;>intro hc<;>(try simp only [hcs,beq_iff_eq,ge_iff_le,gt_iff_lt] at hc))
| ((first | ((first | refine zP ((Plan.takes [0,1,2,4] (.fork 3 (Plan.takes [5,6,7] .done) 5 (Plan.takes [3,6,7] .done)))) (by decide +kernel) ?_ | (with_reducible first | refine zR ?_ | refine zQ (by decide +kernel) ?_ | refine zD (by decide +kernel) ?_ | refine zE (by decide +kernel) ?_ | refine zG (by decide +kernel) ?_));intro K hK) | ((first | refine zA hgc ?_ ?_ ?_ ?_ ?_ | refine zA hzc ?_ ?_ ?_ ?_ ?_ | refine zA hvc ?_ ?_ ?_ ?_ ?_);(focus exact rfl);(focus exact rfl);iterate 2 (focus ((try simp (disch:=omega) only [go_sem,aa,o])<;>(try omega)<;>fail))) | ((first | refine zN ha rfl ?_ ?_ | refine zX hgc rfl ?_ ?_ | refine zX hzc rfl ?_ ?_ | refine zX hvc rfl ?_ ?_ | refine zY ha ?_ ?_);(focus ((try simp (disch:=omega) only [go_sem,aa,o])<;>(try omega)<;>fail))) | ((first | (with_reducible refine aunder_i ?_ ?_<;>intro hg) | with_reducible intro hg)<;>(first | (exfalso;simp at hg;done) | (have hg':=hg;(try simp only [hcs,beq_iff_eq,ge_iff_le,gt_iff_lt] at hg');(try simp only [hg])))))<;>(try simp (disch:=omega) only [go_sem,aa,o])<;>(repeat' with_reducible refine And.intro ?_ ?_)<;>(try (with_reducible refine hK _ ?_;clear hK K)))
| omega)
  all_goals first
    | (exfalso;omega)
    | (rw [if_pos (by omega)];(refine zE2 (zx @I.eq_1 @S.eq_1) ?_;(try simp (disch:=omega) only [go_sem,aa,I,S,I,B,S,zj]));done)
    | (rw [if_neg (by omega)];(refine zE2 dfl ?_;(try simp (disch:=omega) only [go_sem,aa,dfl,I,B,S,zj]));done)
theorem Bg:Pls [Plan.takes [0,1,2,3,4,6,7] (.fork 5 (Plan.takes [8,9,10,11] .done) 8 (Plan.takes [5,9,10,11] .done))]:=pls _
attribute [go_sem] Tryz.ntmps175 Tryz.results175
theorem LX {t:ATree} {z:Int} {r:ARequest} (o:r.op=3):eL t z r=(⟨z,3,r.session,qd t r,r.data,0,qc r⟩,kB t r):=by unfold eL;rw [if_neg (by omega),if_pos o]
inductive CreC (t:ATree) (r:ARequest):Prop where
  | flags (h:r.flags < 0∨3 < r.flags) (e:kB t r=3)
  | form (h:0≤r.flags∧r.flags≤3) (h2:¬ (af r.path).2=0) (e:kB t r=2)
  | shut (h:0≤r.flags∧r.flags≤3) (h2:(af r.path).2=0) (h3:¬ r.session∈t.sessions) (e:kB t r=12)
  | plain (h:r.flags=0∨r.flags=1) (h2:(af r.path).2=0) (h3:r.session∈t.sessions) (e:kB t r=0)
  | lack (h:r.flags=2∨r.flags=3) (h2:(af r.path).2=0) (h3:r.session∈t.sessions) (h4:¬ (aP t (af r.path).1.1).2=0) (e:kB t r=(aP t (af r.path).1.1).2)
  | ser (h:r.flags=2∨r.flags=3) (h2:(af r.path).2=0) (h3:r.session∈t.sessions) (h4:(aP t (af r.path).1.1).2=0) (h5:¬ (fe (af r.path).1.2 (aP t (af r.path).1.1).1.stat.cversion).2=0) (e:kB t r=(fe (af r.path).1.2 (aP t (af r.path).1.1).1.stat.cversion).2)
  | join (h:r.flags=2∨r.flags=3) (h2:(af r.path).2=0) (h3:r.session∈t.sessions) (h4:(aP t (af r.path).1.1).2=0) (h5:(fe (af r.path).1.2 (aP t (af r.path).1.1).1.stat.cversion).2=0) (h6:¬ (ev (af r.path).1.1 (fe (af r.path).1.2 (aP t (af r.path).1.1).1.stat.cversion).1).2=0) (e:kB t r=(ev (af r.path).1.1 (fe (af r.path).1.2 (aP t (af r.path).1.1).1.stat.cversion).1).2)
  | done (h:r.flags=2∨r.flags=3) (h2:(af r.path).2=0) (h3:r.session∈t.sessions) (h4:(aP t (af r.path).1.1).2=0) (h5:(fe (af r.path).1.2 (aP t (af r.path).1.1).1.stat.cversion).2=0) (h6:(ev (af r.path).1.1 (fe (af r.path).1.2 (aP t (af r.path).1.1).1.stat.cversion).1).2=0) (e:kB t r=0)
theorem A2 (t:ATree) (r:ARequest):CreC t r:=by
  by_cases a:r.flags < 0∨3 < r.flags
  · exact .flags a (by unfold kB qa pm;rw [if_pos a])
  by_cases b:(af r.path).2=0
  case neg=>exact .form (by omega) b (by unfold kB qa pm;rw [if_neg a,if_neg b])
  by_cases c:r.session∈t.sessions
  case neg=>exact .shut (by omega) b c (by unfold kB qa pm;rw [if_neg a,if_pos b,if_neg c])
  by_cases d:2≤r.flags
  case neg=>exact .plain (by omega) b c (by unfold kB qa pm;rw [if_neg a,if_pos b,if_pos c,if_neg d])
  by_cases e:(aP t (af r.path).1.1).2=0
  case neg=>exact .lack (by omega) b c e (by unfold kB qa pm;rw [if_neg a,if_pos b,if_pos c,if_pos d,if_neg e])
  by_cases f:(fe (af r.path).1.2 (aP t (af r.path).1.1).1.stat.cversion).2=0
  case neg=>exact .ser (by omega) b c e f (by unfold kB qa pm;rw [if_neg a,if_pos b,if_pos c,if_pos d,if_pos e,if_neg f])
  by_cases g:(ev (af r.path).1.1 (fe (af r.path).1.2 (aP t (af r.path).1.1).1.stat.cversion).1).2=0
  · exact .done (by omega) b c e f g (by unfold kB qa pm;rw [if_neg a,if_pos b,if_pos c,if_pos d,if_pos e,if_pos f,g])
  · exact .join (by omega) b c e f g (by unfold kB qa pm;rw [if_neg a,if_pos b,if_pos c,if_pos d,if_pos e,if_pos f])
set_option maxHeartbeats 8000000 in
theorem KR (t:ATree) (z:Int) (r:ARequest) (ht:okT t) (hr:r.wf) (hp:r.path.length≤1048576) (hz:okI z) (hq:jc t z r) (o:r.op=3):ab Tryz.prog [] 105 [t.av,I z,r.av] (ret (.tup [(cA t z r).1.av,I (cA t z r).2])):=by
  have hgc:=(jK t ht.1).re (congrArg B hq.1)
  have hzc:=(zgood_c z).re (congrArg B (decide_eq_true hq.2.1))
  obtain ⟨hs1,hs2⟩:=hq.2.2
  have hri:=aV hq.1
  have hrs:=jk hq.1
  obtain ⟨sl1,sl2⟩:=x9 r.path
  have hcv:=(J8 ht.1 (af r.path).1.1).2.2.2.2.2.2.1
  have hsr:=Jh (af r.path).1.2 (aP t (af r.path).1.1).1.stat.cversion
  have hx:=LX (t:=t) (z:=z) (r:=r) o
  have hcc:=A2 t r
  have m0:Int.tmod 0 2=0:=by decide
  have m1:Int.tmod 1 2=1:=by decide
  have m2:Int.tmod 2 2=0:=by decide
  have m3:Int.tmod 3 2=1:=by decide
  have b1:bits .and .i64 0 2=0:=by decide +kernel
  have b2:bits .and .i64 1 2=0:=by decide +kernel
  have b3:bits .and .i64 2 2=2:=by decide +kernel
  have b4:bits .and .i64 3 2=2:=by decide +kernel
  have b5:bits .and .i64 0 1=0:=by decide +kernel
  have b6:bits .and .i64 1 1=1:=by decide +kernel
  have b7:bits .and .i64 2 1=0:=by decide +kernel
  have b8:bits .and .i64 3 1=1:=by decide +kernel
  rcases hcc with ⟨h,e⟩ | ⟨h,h2,e⟩ | ⟨h,h2,h3,e⟩ | ⟨h,h2,h3,e⟩ | ⟨h,h2,h3,h4,e⟩ | ⟨h,h2,h3,h4,h5,e⟩ | ⟨h,h2,h3,h4,h5,h6,e⟩ | ⟨h,h2,h3,h4,h5,h6,e⟩
  · skip
    rw [fv hq hx (by omega),e]
    refine zJ Tryz.func105 Tryz.ntmps105 Tryz.results105 ?_;simp only [go_sem]
    (refine zW qw (z4 Bg (ic Tryz.func175) hgc hzc) @o (z1 ?_)<;>(repeat with_reducible intro hc))
    all_goals first | (exfalso;omega) | ((refine zE2 dfl ?_;(try simp (disch:=omega) only [go_sem,aa,dfl,I,B,S,zj]));done)
  · skip
    rw [fv hq hx (by omega),e]
    have hsp:=split_c r.path hr.2.2.1
    refine zJ Tryz.func105 Tryz.ntmps105 Tryz.results105 ?_;simp only [go_sem]
    (refine zW qw (zc Bg (z4 (ic Tryz.func175) hgc hzc hsp)) @o (z1 ?_)<;>(repeat with_reducible intro hc))
    all_goals first | (exfalso;omega) | ((refine zE2 dfl ?_;(try simp (disch:=omega) only [go_sem,aa,dfl,I,B,S,zj]));done)
  · skip
    rw [fv hq hx (by omega),e]
    have hsp:=split_c r.path hr.2.2.1
    rw [h2] at hsp
    have hop:=(open_c t r.session ht.1.2.2.1 hrs).re (congrArg B (decide_eq_false h3))
    refine zJ Tryz.func105 Tryz.ntmps105 Tryz.results105 ?_;simp only [go_sem]
    (refine zW qw (zc Bg (zc (ic Tryz.func175) (z4 hgc hzc hsp hop))) @o (z1 ?_)<;>(repeat with_reducible intro hc))
    all_goals first | (exfalso;omega) | ((refine zE2 dfl ?_;(try simp (disch:=omega) only [go_sem,aa,dfl,I,B,S,zj]));done)
  · rw [e] at hx
    have hsp:=split_c r.path hr.2.2.1
    rw [h2] at hsp
    have hop:=(open_c t r.session ht.1.2.2.1 hrs).re (congrArg B (decide_eq_true h3))
    rcases h with h | h
    · skip
      have hcp:qd t r=r.path:=by unfold qd;rw [if_neg (by omega)]
      have hco:qc r=0:=by unfold qc;rw [if_neg (by omega)]
      rw [hcp,hco] at hx
      have hxw:=fZ (z:=z) ht hr hp hz
      rw [hx] at hxw
      simp only at hxw
      have ha:=gE t ⟨z,3,r.session,r.path,r.data,0,0⟩ ht.1 hxw.1.2.2.2.1 hxw.1.2.2.2.2.1
      rw [iB hq hx]
      generalize ar t ⟨z,3,r.session,r.path,r.data,0,0⟩=q at ha ⊢
      obtain ⟨a,es,e⟩:=q
      simp only at ha ⊢
      refine zJ Tryz.func105 Tryz.ntmps105 Tryz.results105 ?_;simp only [go_sem]
      (refine zW qw (zc Bg (zc (ic Tryz.func175) (zc hgc (z4 hzc hsp hop ha)))) (zx @o (zx @h (zx @b1 (zx @b2 (zx @b3 (zx @b4 (zx @b5 (zx @b6 (zx @b7 @b8))))))))) (z2 ?_ ?_)<;>(repeat with_reducible intro hc))
      all_goals first
        | (exfalso;omega)
        | (rw [if_pos (by omega)];(refine zE2 (zx @I.eq_1 @S.eq_1) ?_;(try simp (disch:=omega) only [go_sem,aa,I,S,I,B,S,zj]));done)
        | (rw [if_neg (by omega)];(refine zE2 dfl ?_;(try simp (disch:=omega) only [go_sem,aa,dfl,I,B,S,zj]));done)
    · skip
      have hcp:qd t r=r.path:=by unfold qd;rw [if_neg (by omega)]
      have hco:qc r=r.session:=by unfold qc;rw [if_pos (by omega)]
      rw [hcp,hco] at hx
      have hxw:=fZ (z:=z) ht hr hp hz
      rw [hx] at hxw
      simp only at hxw
      have ha:=gE t ⟨z,3,r.session,r.path,r.data,0,r.session⟩ ht.1 hxw.1.2.2.2.1 hxw.1.2.2.2.2.1
      rw [iB hq hx]
      generalize ar t ⟨z,3,r.session,r.path,r.data,0,r.session⟩=q at ha ⊢
      obtain ⟨a,es,e⟩:=q
      simp only at ha ⊢
      refine zJ Tryz.func105 Tryz.ntmps105 Tryz.results105 ?_;simp only [go_sem]
      (refine zW qw (zc Bg (zc (ic Tryz.func175) (zc hgc (z4 hzc hsp hop ha)))) (zx @o (zx @h (zx @b1 (zx @b2 (zx @b3 (zx @b4 (zx @b5 (zx @b6 (zx @b7 @b8))))))))) (z2 ?_ ?_)<;>(repeat with_reducible intro hc))
      all_goals first
        | (exfalso;omega)
        | (rw [if_pos (by omega)];(refine zE2 (zx @I.eq_1 @S.eq_1) ?_;(try simp (disch:=omega) only [go_sem,aa,I,S,I,B,S,zj]));done)
        | (rw [if_neg (by omega)];(refine zE2 dfl ?_;(try simp (disch:=omega) only [go_sem,aa,dfl,I,B,S,zj]));done)
  · skip
    rw [fv hq hx (by omega),e]
    have hsp:=split_c r.path hr.2.2.1
    rw [h2] at hsp
    have hop:=(open_c t r.session ht.1.2.2.1 hrs).re (congrArg B (decide_eq_true h3))
    have hgn:=iO t (af r.path).1.1 ht.1.2.1.1 hri
    generalize (aP t (af r.path).1.1).2=e1 at h4 hgn ⊢
    rcases h with h | h
    all_goals
      refine zJ Tryz.func105 Tryz.ntmps105 Tryz.results105 ?_;simp only [go_sem]
      (repeat' first
    | (with_reducible refine AR.f ?_)
    | refine ap (by decide) ?_
    | (with_reducible refine AWP.cond rfl ?_ ?_<;>intro hc<;>(try simp only [hcs,beq_iff_eq,ge_iff_le,gt_iff_lt] at hc))
    | (refine bQ fun Kk hKk=>(cr bF Tryz.func175 rfl (by kernel_rfl) (by simp [Tryz.ntmps175]) ?_);simp only [Tryz.ntmps175,Tryz.results175,List.toList_toArray,gl,List.length_nil,List.length_cons,Nat.reduceAdd,List.length_append,List.length_set,go_sem])
    | ((first | ((first | refine zP ((Plan.takes [0,1,2,3,4,6,7] (.fork 5 (Plan.takes [8,9,10,11] .done) 8 (Plan.takes [5,9,10,11] .done)))) (by decide +kernel) ?_ | (with_reducible first | refine zR ?_ | refine zQ (by decide +kernel) ?_ | refine zD (by decide +kernel) ?_ | refine zE (by decide +kernel) ?_ | refine zG (by decide +kernel) ?_));intro K hK) | ((first | refine zA hgc ?_ ?_ ?_ ?_ ?_ | refine zA hzc ?_ ?_ ?_ ?_ ?_ | refine zA hsp ?_ ?_ ?_ ?_ ?_ | refine zA hop ?_ ?_ ?_ ?_ ?_ | refine zA hgn ?_ ?_ ?_ ?_ ?_);(focus exact rfl);(focus exact rfl);iterate 2 (focus ((try simp (disch:=omega) only [go_sem,aa,o,h,b1,b2,b3,b4,b5,b6,b7,b8])<;>(try omega)<;>fail))) | ((first | refine zN hgn rfl ?_ ?_ | refine zX hgc rfl ?_ ?_ | refine zX hzc rfl ?_ ?_ | refine zX hsp rfl ?_ ?_ | refine zX hop rfl ?_ ?_ | refine zX hgn rfl ?_ ?_ | refine zY hgn ?_ ?_);(focus ((try simp (disch:=omega) only [go_sem,aa,o,h,b1,b2,b3,b4,b5,b6,b7,b8])<;>(try omega)<;>fail))) | (refine aend_in (v:=?_) hKk (by first | exact .inl rfl | exact .inr rfl) ?_ ?_ ?_;rotate_left;(focus ((try simp (disch:=omega) only [go_sem,aa,o,h,b1,b2,b3,b4,b5,b6,b7,b8])<;>(try omega)<;>fail));(focus ((try simp (disch:=omega) only [go_sem,aa,o,h,b1,b2,b3,b4,b5,b6,b7,b8])<;>(first | done | exact rfl)));clear hKk Kk) | ((first | (with_reducible refine aunder_i ?_ ?_<;>intro hg) | with_reducible intro hg)<;>(first | (exfalso;simp at hg;done) | (have hg':=hg;(try simp only [hcs,beq_iff_eq,ge_iff_le,gt_iff_lt] at hg');(try simp only [hg])))))<;>(try simp (disch:=omega) only [go_sem,aa,o,h,b1,b2,b3,b4,b5,b6,b7,b8])<;>(repeat' with_reducible refine And.intro ?_ ?_)<;>(try (with_reducible refine hK _ ?_;clear hK K)))
    | omega)
      all_goals first | (exfalso;omega) | ((refine zE2 dfl ?_;(try simp (disch:=omega) only [go_sem,aa,dfl,I,B,S,zj]));done)
  · skip
    rw [fv hq hx (by omega),e]
    have hsp:=split_c r.path hr.2.2.1
    rw [h2] at hsp
    have hop:=(open_c t r.session ht.1.2.2.1 hrs).re (congrArg B (decide_eq_true h3))
    have hgn:=iO t (af r.path).1.1 ht.1.2.1.1 hri
    rw [h4] at hgn
    have hse:=qx (af r.path).1.2 (aP t (af r.path).1.1).1.stat.cversion (by omega) hcv
    generalize (fe (af r.path).1.2 (aP t (af r.path).1.1).1.stat.cversion).2=e1 at h5 hse ⊢
    rcases h with h | h
    all_goals
      refine zJ Tryz.func105 Tryz.ntmps105 Tryz.results105 ?_;simp only [go_sem]
      (repeat' first
    | (with_reducible refine AR.f ?_)
    | refine ap (by decide) ?_
    | (with_reducible refine AWP.cond rfl ?_ ?_<;>intro hc<;>(try simp only [hcs,beq_iff_eq,ge_iff_le,gt_iff_lt] at hc))
    | (refine bQ fun Kk hKk=>(cr bF Tryz.func175 rfl (by kernel_rfl) (by simp [Tryz.ntmps175]) ?_);simp only [Tryz.ntmps175,Tryz.results175,List.toList_toArray,gl,List.length_nil,List.length_cons,Nat.reduceAdd,List.length_append,List.length_set,go_sem])
    | ((first | ((first | refine zP ((Plan.takes [0,1,2,3,4,6,7] (.fork 5 (Plan.takes [8,9,10,11] .done) 8 (Plan.takes [5,9,10,11] .done)))) (by decide +kernel) ?_ | (with_reducible first | refine zR ?_ | refine zQ (by decide +kernel) ?_ | refine zD (by decide +kernel) ?_ | refine zE (by decide +kernel) ?_ | refine zG (by decide +kernel) ?_));intro K hK) | ((first | refine zA hgc ?_ ?_ ?_ ?_ ?_ | refine zA hzc ?_ ?_ ?_ ?_ ?_ | refine zA hsp ?_ ?_ ?_ ?_ ?_ | refine zA hop ?_ ?_ ?_ ?_ ?_ | refine zA hgn ?_ ?_ ?_ ?_ ?_ | refine zA hse ?_ ?_ ?_ ?_ ?_);(focus exact rfl);(focus exact rfl);iterate 2 (focus ((try simp (disch:=omega) only [go_sem,aa,o,h,b1,b2,b3,b4,b5,b6,b7,b8])<;>(try omega)<;>fail))) | ((first | refine zN hgn rfl ?_ ?_ | refine zX hgc rfl ?_ ?_ | refine zX hzc rfl ?_ ?_ | refine zX hsp rfl ?_ ?_ | refine zX hop rfl ?_ ?_ | refine zX hgn rfl ?_ ?_ | refine zY hgn ?_ ?_ | refine zX hse rfl ?_ ?_);(focus ((try simp (disch:=omega) only [go_sem,aa,o,h,b1,b2,b3,b4,b5,b6,b7,b8])<;>(try omega)<;>fail))) | (refine aend_in (v:=?_) hKk (by first | exact .inl rfl | exact .inr rfl) ?_ ?_ ?_;rotate_left;(focus ((try simp (disch:=omega) only [go_sem,aa,o,h,b1,b2,b3,b4,b5,b6,b7,b8])<;>(try omega)<;>fail));(focus ((try simp (disch:=omega) only [go_sem,aa,o,h,b1,b2,b3,b4,b5,b6,b7,b8])<;>(first | done | exact rfl)));clear hKk Kk) | ((first | (with_reducible refine aunder_i ?_ ?_<;>intro hg) | with_reducible intro hg)<;>(first | (exfalso;simp at hg;done) | (have hg':=hg;(try simp only [hcs,beq_iff_eq,ge_iff_le,gt_iff_lt] at hg');(try simp only [hg])))))<;>(try simp (disch:=omega) only [go_sem,aa,o,h,b1,b2,b3,b4,b5,b6,b7,b8])<;>(repeat' with_reducible refine And.intro ?_ ?_)<;>(try (with_reducible refine hK _ ?_;clear hK K)))
    | omega)
      all_goals first | (exfalso;omega) | ((refine zE2 dfl ?_;(try simp (disch:=omega) only [go_sem,aa,dfl,I,B,S,zj]));done)
  · skip
    rw [fv hq hx (by omega),e]
    have hsp:=split_c r.path hr.2.2.1
    rw [h2] at hsp
    have hop:=(open_c t r.session ht.1.2.2.1 hrs).re (congrArg B (decide_eq_true h3))
    have hgn:=iO t (af r.path).1.1 ht.1.2.1.1 hri
    rw [h4] at hgn
    have hse:=qx (af r.path).1.2 (aP t (af r.path).1.1).1.stat.cversion (by omega) hcv
    rw [h5] at hse
    have hjo:=Fx (af r.path).1.1 (fe (af r.path).1.2 (aP t (af r.path).1.1).1.stat.cversion).1 (by unfold okS;omega) (by unfold okS;omega)
    generalize (ev (af r.path).1.1 (fe (af r.path).1.2 (aP t (af r.path).1.1).1.stat.cversion).1).2=e1 at h6 hjo ⊢
    rcases h with h | h
    all_goals
      refine zJ Tryz.func105 Tryz.ntmps105 Tryz.results105 ?_;simp only [go_sem]
      (repeat' first
    | (with_reducible refine AR.f ?_)
    | refine ap (by decide) ?_
    | (with_reducible refine AWP.cond rfl ?_ ?_<;>intro hc<;>(try simp only [hcs,beq_iff_eq,ge_iff_le,gt_iff_lt] at hc))
    | (refine bQ fun Kk hKk=>(cr bF Tryz.func175 rfl (by kernel_rfl) (by simp [Tryz.ntmps175]) ?_);simp only [Tryz.ntmps175,Tryz.results175,List.toList_toArray,gl,List.length_nil,List.length_cons,Nat.reduceAdd,List.length_append,List.length_set,go_sem])
    | ((first | ((first | refine zP ((Plan.takes [0,1,2,3,4,6,7] (.fork 5 (Plan.takes [8,9,10,11] .done) 8 (Plan.takes [5,9,10,11] .done)))) (by decide +kernel) ?_ | (with_reducible first | refine zR ?_ | refine zQ (by decide +kernel) ?_ | refine zD (by decide +kernel) ?_ | refine zE (by decide +kernel) ?_ | refine zG (by decide +kernel) ?_));intro K hK) | ((first | refine zA hgc ?_ ?_ ?_ ?_ ?_ | refine zA hzc ?_ ?_ ?_ ?_ ?_ | refine zA hsp ?_ ?_ ?_ ?_ ?_ | refine zA hop ?_ ?_ ?_ ?_ ?_ | refine zA hgn ?_ ?_ ?_ ?_ ?_ | refine zA hse ?_ ?_ ?_ ?_ ?_ | refine zA hjo ?_ ?_ ?_ ?_ ?_);(focus exact rfl);(focus exact rfl);iterate 2 (focus ((try simp (disch:=omega) only [go_sem,aa,o,h,b1,b2,b3,b4,b5,b6,b7,b8])<;>(try omega)<;>fail))) | ((first | refine zN hgn rfl ?_ ?_ | refine zX hgc rfl ?_ ?_ | refine zX hzc rfl ?_ ?_ | refine zX hsp rfl ?_ ?_ | refine zX hop rfl ?_ ?_ | refine zX hgn rfl ?_ ?_ | refine zY hgn ?_ ?_ | refine zX hse rfl ?_ ?_ | refine zX hjo rfl ?_ ?_);(focus ((try simp (disch:=omega) only [go_sem,aa,o,h,b1,b2,b3,b4,b5,b6,b7,b8])<;>(try omega)<;>fail))) | (refine aend_in (v:=?_) hKk (by first | exact .inl rfl | exact .inr rfl) ?_ ?_ ?_;rotate_left;(focus ((try simp (disch:=omega) only [go_sem,aa,o,h,b1,b2,b3,b4,b5,b6,b7,b8])<;>(try omega)<;>fail));(focus ((try simp (disch:=omega) only [go_sem,aa,o,h,b1,b2,b3,b4,b5,b6,b7,b8])<;>(first | done | exact rfl)));clear hKk Kk) | ((first | (with_reducible refine aunder_i ?_ ?_<;>intro hg) | with_reducible intro hg)<;>(first | (exfalso;simp at hg;done) | (have hg':=hg;(try simp only [hcs,beq_iff_eq,ge_iff_le,gt_iff_lt] at hg');(try simp only [hg])))))<;>(try simp (disch:=omega) only [go_sem,aa,o,h,b1,b2,b3,b4,b5,b6,b7,b8])<;>(repeat' with_reducible refine And.intro ?_ ?_)<;>(try (with_reducible refine hK _ ?_;clear hK K)))
    | omega)
      all_goals first | (exfalso;omega) | ((refine zE2 dfl ?_;(try simp (disch:=omega) only [go_sem,aa,dfl,I,B,S,zj]));done)
  · rw [e] at hx
    have hsp:=split_c r.path hr.2.2.1
    rw [h2] at hsp
    have hop:=(open_c t r.session ht.1.2.2.1 hrs).re (congrArg B (decide_eq_true h3))
    have hgn:=iO t (af r.path).1.1 ht.1.2.1.1 hri
    rw [h4] at hgn
    have hse:=qx (af r.path).1.2 (aP t (af r.path).1.1).1.stat.cversion (by omega) hcv
    rw [h5] at hse
    have hjo:=Fx (af r.path).1.1 (fe (af r.path).1.2 (aP t (af r.path).1.1).1.stat.cversion).1 (by unfold okS;omega) (by unfold okS;omega)
    rw [h6] at hjo
    rcases h with h | h
    · skip
      have hcp:qd t r=(ev (af r.path).1.1 (fe (af r.path).1.2 (aP t (af r.path).1.1).1.stat.cversion).1).1:=by unfold qd;rw [if_pos (by omega)];rfl
      have hco:qc r=0:=by unfold qc;rw [if_neg (by omega)]
      rw [hcp,hco] at hx
      have hxw:=fZ (z:=z) ht hr hp hz
      rw [hx] at hxw
      simp only at hxw
      have ha:=gE t ⟨z,3,r.session,(ev (af r.path).1.1 (fe (af r.path).1.2 (aP t (af r.path).1.1).1.stat.cversion).1).1,r.data,0,0⟩ ht.1 hxw.1.2.2.2.1 hxw.1.2.2.2.2.1
      rw [iB hq hx]
      generalize ar t ⟨z,3,r.session,(ev (af r.path).1.1 (fe (af r.path).1.2 (aP t (af r.path).1.1).1.stat.cversion).1).1,r.data,0,0⟩=q at ha ⊢
      obtain ⟨a,es,e⟩:=q
      simp only at ha ⊢
      refine zJ Tryz.func105 Tryz.ntmps105 Tryz.results105 ?_;simp only [go_sem]
      (refine zW qw (zc Bg (zc (ic Tryz.func175) (zc hgc (zc hzc (zc hsp (zc hop (z4 hgn hse hjo ha))))))) (zx @o (zx @h (zx @b1 (zx @b2 (zx @b3 (zx @b4 (zx @b5 (zx @b6 (zx @b7 @b8))))))))) (z2 ?_ ?_)<;>(repeat with_reducible intro hc))
      all_goals first
        | (exfalso;omega)
        | (rw [if_pos (by omega)];(refine zE2 (zx @I.eq_1 @S.eq_1) ?_;(try simp (disch:=omega) only [go_sem,aa,I,S,I,B,S,zj]));done)
        | (rw [if_neg (by omega)];(refine zE2 dfl ?_;(try simp (disch:=omega) only [go_sem,aa,dfl,I,B,S,zj]));done)
    · skip
      have hcp:qd t r=(ev (af r.path).1.1 (fe (af r.path).1.2 (aP t (af r.path).1.1).1.stat.cversion).1).1:=by unfold qd;rw [if_pos (by omega)];rfl
      have hco:qc r=r.session:=by unfold qc;rw [if_pos (by omega)]
      rw [hcp,hco] at hx
      have hxw:=fZ (z:=z) ht hr hp hz
      rw [hx] at hxw
      simp only at hxw
      have ha:=gE t ⟨z,3,r.session,(ev (af r.path).1.1 (fe (af r.path).1.2 (aP t (af r.path).1.1).1.stat.cversion).1).1,r.data,0,r.session⟩ ht.1 hxw.1.2.2.2.1 hxw.1.2.2.2.2.1
      rw [iB hq hx]
      generalize ar t ⟨z,3,r.session,(ev (af r.path).1.1 (fe (af r.path).1.2 (aP t (af r.path).1.1).1.stat.cversion).1).1,r.data,0,r.session⟩=q at ha ⊢
      obtain ⟨a,es,e⟩:=q
      simp only at ha ⊢
      refine zJ Tryz.func105 Tryz.ntmps105 Tryz.results105 ?_;simp only [go_sem]
      (refine zW qw (zc Bg (zc (ic Tryz.func175) (zc hgc (zc hzc (zc hsp (zc hop (z4 hgn hse hjo ha))))))) (zx @o (zx @h (zx @b1 (zx @b2 (zx @b3 (zx @b4 (zx @b5 (zx @b6 (zx @b7 @b8))))))))) (z2 ?_ ?_)<;>(repeat with_reducible intro hc))
      all_goals first
        | (exfalso;omega)
        | (rw [if_pos (by omega)];(refine zE2 (zx @I.eq_1 @S.eq_1) ?_;(try simp (disch:=omega) only [go_sem,aa,I,S,I,B,S,zj]));done)
        | (rw [if_neg (by omega)];(refine zE2 dfl ?_;(try simp (disch:=omega) only [go_sem,aa,dfl,I,B,S,zj]));done)
theorem L8 (t:ATree) (z:Int) (r:ARequest) (ht:okT t) (hr:r.wf) (hp:r.path.length≤1048576) (hz:okI z):ab Tryz.prog [] 105 [t.av,I z,r.av] (ret (.tup [(cA t z r).1.av,I (cA t z r).2])):=by
  by_cases hq:jc t z r
  case neg=>exact JC t z r ht hr hp hz hq
  rcases (by omega:r.op=3∨r.op=4∨r.op=5∨r.op=1∨r.op=2∨¬ (1≤r.op∧r.op≤5)) with o | o | o | o
  · exact KR t z r ht hr hp hz hq o
  · exact Kx t z r ht hr hp hz hq o
  · exact Jd t z r ht hr hp hz hq o
  · exact IQ t z r ht hr hp hz hq o
end Go.Proofs.YtjcooccnfkfjhaaGreatDoor
