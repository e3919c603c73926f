/- A part of what Tops leans on: texts of this claim, one behind the other. No condition. -/
import Derived.Test.YtjcooccnfkfjhaaGreatDoorTopsK8
namespace Go.Proofs.YtjcooccnfkfjhaaGreatDoor
set_option linter.unusedVariables false
set_option linter.unusedSimpArgs false
open Go Go.RowKit
attribute [go_sem] Tryz.ntmps72 Tryz.results72 Tryz.ntmps73 Tryz.results73 Tryz.ntmps128 Tryz.results128
set_option maxRecDepth 100000
def pathsN (ns:List ANode):List (List UInt8):=ns.map ANode.path
def dirP (p:List UInt8):List UInt8:=(af p).1.1
def kidF (more z:Int) (n:ANode):ANode:=⟨n.path,n.data,⟨n.stat.czxid,n.stat.mzxid,z,n.stat.version,IntKind.i64.wrap (n.stat.cversion+1),n.stat.owner,IntKind.i64.wrap (n.stat.kids+more)⟩⟩
def oU (ns:List ANode) (p:List UInt8) (more z:Int):List ANode:=if dirP p∈pathsN ns then ns.set (place (pathsN ns) (dirP p)) (kidF more z (ns.getD (place (pathsN ns) (dirP p)) default)) else ns
def iz (ns:List ANode) (p:List UInt8) (z:Int):List ANode:=oU (ns.eraseIdx (place (pathsN ns) p)) p (-1) z
def mkN (x:ATxn):ANode:=⟨x.path,x.data,⟨x.zxid,x.zxid,x.zxid,0,0,x.owner,0⟩⟩
def qP (ns:List ANode) (x:ATxn):List ANode:=oU (ns.insertIdx (place (pathsN ns) x.path) (mkN x)) x.path 1 x.zxid
def setF (x:ATxn) (n:ANode):ANode:=⟨n.path,x.data,⟨n.stat.czxid,x.zxid,n.stat.pzxid,x.version,n.stat.cversion,n.stat.owner,n.stat.kids⟩⟩
def setN (ns:List ANode) (x:ATxn):List ANode:=ns.set (place (pathsN ns) x.path) (setF x (ns.getD (place (pathsN ns) x.path) default))
def nL (p:List UInt8):List AEvent:=[⟨2,p⟩,⟨4,dirP p⟩]
def bd (t:ATree) (s z:Int):Nat→List ANode×List AEvent
  | 0=>(t.nodes,[])
  | k+1=>if (t.nodes.getD k default).stat.owner=s then (iz (bd t s z k).1 (t.nodes.getD k default).path z,(bd t s z k).2++nL (t.nodes.getD k default).path) else bd t s z k
def dn (t:ATree) (x:ATxn):ATree×List AEvent:=
  if x.op=1 then (⟨x.zxid,t.nodes,t.sessions.insertIdx (aS t.sessions x.session) x.session⟩,[])
  else if x.op=2 then (⟨x.zxid,(bd t x.session x.zxid t.nodes.length).1,t.sessions.eraseIdx (aS t.sessions x.session)⟩,(bd t x.session x.zxid t.nodes.length).2)
  else if x.op=3 then (⟨x.zxid,qP t.nodes x,t.sessions⟩,[⟨1,x.path⟩,⟨4,dirP x.path⟩])
  else if x.op=4 then (⟨x.zxid,iz t.nodes x.path x.zxid,t.sessions⟩,nL x.path)
  else (⟨x.zxid,setN t.nodes x,t.sessions⟩,[⟨3,x.path⟩])
def ar (t:ATree) (x:ATxn):ATree×List AEvent×Int:=
  if ¬ cV t x=0 then (default,[],cV t x) else if (dn t x).1.nodes.any iy=true then (default,[],6) else ((dn t x).1,(dn t x).2,0)
theorem oC {t:ATree} {x:ATxn} (h:¬ cV t x=0):ar t x=(default,[],cV t x):=by unfold ar;rw [if_pos h]
theorem eX {t:ATree} {x:ATxn} (h:cV t x=0) (h2:(dn t x).1.nodes.any iy=true):ar t x=(default,[],6):=by unfold ar;rw [if_neg (fun h'=>h' h),if_pos h2]
theorem gW {t:ATree} {x:ATxn} (h:cV t x=0) (h2:(dn t x).1.nodes.any iy=false):ar t x=((dn t x).1,(dn t x).2,0):=by unfold ar;rw [if_neg (fun h'=>h' h),if_neg (by rw [h2];decide)]
theorem jy {t:ATree} {p:List UInt8}:(aP t p).2=0↔p∈aM t:=by
  by_cases h:p∈aM t
  · unfold aP;rw [if_pos h];exact ⟨fun _=>h,fun _=>rfl⟩
  · unfold aP;rw [if_neg h];exact ⟨fun h'=>(by cases h'),fun h'=>absurd h' h⟩
theorem Bd {t:ATree} {p:List UInt8} (h:¬ p∈aM t):(aP t p).2=7:=by unfold aP;rw [if_neg h]
theorem dX {t:ATree} {x:ATxn} (h:cV t x=0):aJ t=true∧aO x=0∧t.zxid < x.zxid∧(x.op=1→¬ x.session∈t.sessions)∧(¬ x.op=1→x.session∈t.sessions)∧
    (x.op=3→¬ x.path∈aM t∧dirP x.path∈aM t∧t.nodes.length < 400)∧(x.op=4→x.path∈aM t∧(aP t x.path).1.stat.kids≤0)∧(x.op=5→x.path∈aM t):=by
  unfold cV at h
  by_cases a1:aJ t=true
  case neg=>rw [if_pos (by simpa using a1)] at h;cases h
  rw [if_neg (by simp [a1])] at h
  by_cases a2:aO x=0
  case neg=>rw [if_pos a2] at h;exact absurd h a2
  rw [if_neg (fun h=>h a2)] at h
  by_cases a3:x.zxid≤t.zxid
  · rw [if_pos a3] at h;cases h
  rw [if_neg a3] at h
  have a5:¬ x.op=1→x.session∈t.sessions:=fun o=>by
    rw [if_neg o] at h
    by_cases m:x.session∈t.sessions
    · exact m
    · rw [if_pos m] at h;cases h
  refine ⟨a1,a2,by omega,fun o=>?_,a5,fun o=>?_,fun o=>?_,fun o=>?_⟩
  · rw [if_pos o] at h
    intro m;rw [if_pos m] at h;cases h
  · rw [if_neg (by omega),if_neg (fun h=>h (a5 (by omega))),if_pos o] at h
    unfold o8 at h
    by_cases q1:(aP t x.path).2=0
    · rw [if_pos q1] at h;cases h
    rw [if_neg q1] at h
    by_cases q2:(aP t (af x.path).1.1).2=0
    case neg=>rw [if_pos q2] at h;exact absurd h q2
    rw [if_neg (fun h=>h q2)] at h
    split at h
    · cases h
    · split at h
      · cases h
      · split at h
        · cases h
        · exact ⟨fun m=>q1 (jy.2 m),jy.1 q2,by omega⟩
  · rw [if_neg (by omega),if_neg (fun h=>h (a5 (by omega))),if_neg (by omega),if_pos o] at h
    split at h
    · cases h
    · rename_i q;exact ⟨jy.1 h,by omega⟩
  · rw [if_neg (by omega),if_neg (fun h=>h (a5 (by omega))),if_neg (by omega),if_neg (by omega),if_pos o] at h
    split at h
    · cases h
    · exact jy.1 h
theorem eU {x:ATxn} (h:aO x=0):1≤x.op∧x.op≤5∧1≤x.session∧xD x=false:=by
  by_cases h1:x.op < 1∨5 < x.op
  · rw [wZ h1] at h;cases h
  by_cases h2:mu x=true
  case neg=>rw [pA (by omega) h2] at h;cases h
  by_cases h3:256 < x.data.length
  · rw [qS (by omega) h2 h3] at h;cases h
  rw [xn (by omega) h2 (by omega)] at h
  refine ⟨by omega,by omega,((lM x).1 h2).2.1.1,?_⟩
  cases e:xD x
  · rfl
  · rw [e,if_pos rfl] at h;cases h
theorem nf {x:ATxn} (h:aO x=0) (ho:3≤x.op∧x.op≤4):bF x.path=true∧x.path≠[47]:=by
  obtain ⟨_,_,_,hb⟩:=eU h
  unfold xD at hb
  rw [if_neg (by omega)] at hb
  split at hb
  · simp at hb;exact ⟨hb.1,hb.2.1⟩
  · rw [if_pos (by omega)] at hb;simp at hb;exact ⟨hb.1,hb.2.1⟩
theorem sA (ns:List ANode) (p:List UInt8) (m z:Int):(oU ns p m z).length=ns.length:=by unfold oU;split<;>simp
theorem Cf {l:List (List UInt8)} {i:Nat} {x y:List UInt8} (h:i≤l.length):y∈l.insertIdx i x↔y=x∨y∈l:=List.mem_insertIdx h
theorem oO {l:List (List UInt8)} {key:List UInt8} (hr:aY l) (hm:¬ key∈l):aY (l.insertIdx (place l key) key):=by
  have hp:=gk l key
  have lo:∀ j,j < place l key→l.getD j [] < key:=fun j hj=>by
    have:=List.not_of_lt_findIdx (p:=fun x=>!decide (x < key)) (xs:=l) hj
    rw [List.getD_eq_getElem?_getD,List.getElem?_eq_getElem (by omega)]
    simpa using this
  have hi:∀ j,place l key≤j→j < l.length→key < l.getD j []:=fun j h1 h2=>by
    have a:¬ l.getD (place l key) [] < key:=by
      have:=List.findIdx_getElem (p:=fun x=>!decide (x < key)) (xs:=l) (w:=(by unfold place at h1;omega))
      rw [Bool.not_eq_true',decide_eq_false_iff_not] at this
      rw [List.getD_eq_getElem?_getD,List.getElem?_eq_getElem (by omega)]
      exact this
    have b:key < l.getD (place l key) []:=ve a fun e=>hm (by rw [←e];exact cz _ _ (by omega))
    by_cases e:place l key=j
    · rw [←e];exact b
    · exact List.lt_trans b (bg hr (by omega) h2)
  generalize place l key=p at *
  intro k hk
  rw [eQ _ _ _ hp] at hk
  have gt (q:Nat) (hq:p < q):(l.insertIdx p key).getD q []=l.getD (q - 1) []:=by
    rw [eH _ _ _ hp,List.getD_eq_getElem?_getD,List.getElem?_append_right (by rw [List.length_take];omega),List.length_take,Nat.min_eq_left hp,show q - p=(q - p - 1)+1 from by omega,List.getElem?_cons_succ,List.getElem?_drop,List.getD_eq_getElem?_getD]
    congr 2;omega
  rcases Nat.lt_trichotomy (k+1) p with h | h | h
  · rw [eT _ _ _ _ _ hp (by omega),eT _ _ _ _ _ hp (by omega)];exact hr k (by omega)
  · subst h
    rw [eT _ _ _ _ _ hp (by omega),gg _ _ _ _ hp];exact lo k (by omega)
  · rw [gt _ h,Nat.add_sub_cancel]
    by_cases e:k=p
    · subst e;rw [gg _ _ _ _ hp];exact hi _ (Nat.le_refl _) (by omega)
    · rw [gt _ (by omega)]
      have:=hr (k - 1) (by omega)
      rwa [show k - 1+1=k from by omega] at this
theorem iK {l:List (List UInt8)} (hr:aY l) (i:Nat):aY (l.eraseIdx i):=by
  by_cases h:i < l.length
  · intro k hk
    rw [dI _ _ h] at hk
    have g (q:Nat):(l.eraseIdx i).getD q []=if q < i then l.getD q [] else l.getD (q+1) []:=by
      rw [List.getD_eq_getElem?_getD,List.getElem?_eraseIdx];split<;>rw [List.getD_eq_getElem?_getD]
    rw [g,g]
    split<;>split
    · exact hr k (by omega)
    · exact bg hr (by omega) (by omega)
    · omega
    · exact hr (k+1) (by omega)
  · rw [List.eraseIdx_of_length_le (by omega)];exact hr
theorem ne (ns:List ANode) (i:Nat) (n:ANode):pathsN (ns.insertIdx i n)=(pathsN ns).insertIdx i n.path:=by unfold pathsN;exact (jM ANode.path ns i n).symm
theorem cA (ns:List ANode) (i:Nat):pathsN (ns.eraseIdx i)=(pathsN ns).eraseIdx i:=by unfold pathsN;exact (bx ANode.path ns i).symm
theorem qQ (ns:List ANode) (i:Nat) (n:ANode) (h:n.path=(ns.getD i default).path):pathsN (ns.set i n)=pathsN ns:=by
  unfold pathsN
  apply List.ext_getElem?
  intro j
  rw [List.getElem?_map,List.getElem?_map,List.getElem?_set]
  split
  · rename_i e;subst e
    split
    · rename_i h2;rw [List.getD_eq_getElem?_getD,List.getElem?_eq_getElem h2] at h;rw [List.getElem?_eq_getElem h2];simp [h]
    · rename_i h2;rw [List.getElem?_eq_none (by omega)]
  · rfl
theorem m5 (ns:List ANode) (p:List UInt8) (m z:Int):pathsN (oU ns p m z)=pathsN ns:=by
  unfold oU;split
  · exact qQ _ _ _ rfl
  · rfl
theorem bj (ns:List ANode):(pathsN ns).length=ns.length:=by unfold pathsN;simp
theorem zk {s:List UInt8} (hg:bF s=true) (h:s≠[47]):dirP s≠s:=by
  rcases m7 hg with e | ⟨ps,p,h1,h2,h3,_⟩
  · exact absurd e h
  · unfold dirP
    rw [h2,mZ h1 h3]
    intro e
    have:=congrArg cY e
    rw [gH h1,gH (fun q hq=>h1 q (List.mem_append.2 (.inl hq)))] at this
    have:=congrArg List.length this
    simp at this
theorem iY {l:List (List UInt8)} {i:Nat} {y:List UInt8} (h:y∈l) (hy:l.getD i []≠y):y∈l.eraseIdx i:=by
  by_cases hi:i < l.length
  · rw [gj,List.mem_append]
    have:l=l.take i++l.getD i []::l.drop (i+1):=by
      rw [List.getD_eq_getElem?_getD,List.getElem?_eq_getElem hi];simp
    rw [this,List.mem_append,List.mem_cons] at h
    rcases h with h | h | h
    · exact .inl h
    · exact absurd h.symm hy
    · exact .inr h
  · rw [List.eraseIdx_of_length_le (by omega)];exact h
theorem BH {t:ATree} (hg:aJ t=true) {p:List UInt8} (hm:p∈aM t) (h:p≠[47]):dirP p∈aM t∧dirP p≠p:=by
  have hr:=aT hg
  have hpl:=(ap hr hm).1
  have hpe:=(ap hr hm).2
  rw [aQ] at hpl
  rw [aW] at hpe
  obtain ⟨_,_,a,b⟩:=bt.1 hg
  have hgp:=(a _ hpl).1
  rw [hpe] at hgp
  refine ⟨?_,zk hgp h⟩
  rcases (b _ hpl).2.2.1 with e | e
  · rw [e,(dg hg).2.2.1] at hpe;exact absurd hpe.symm h
  · unfold tA at e;rw [hpe] at e;exact e
theorem kg (z:Int) (ns:List ANode) (ss:List Int) (key:List UInt8) (h:ns.length*88≤140737488351232) (hr:aY (pathsN ns)):ab Tryz.prog [] 74 [.agg [I z,.d (.sl 9 (ns.map ANode.row)),.d (.sl 1 (ss.map cO))],S key] (ret (.tup [I (place (pathsN ns) key),B (decide (key∈pathsN ns))])):=
  vm ⟨z,ns,ss⟩ key h hr
theorem uU {l:List Int} {key:Int} (hr:fB l) (h:key∈l):aS l key < l.length:=by
  obtain ⟨k,hk,e⟩:=(bJ l default key).1 h
  have:aS l key=k:=pk (by omega) (fun j hj=>by rw [←e];exact ek hr hj hk) (fun _=>by rw [e];omega)
  omega
theorem BT {l:List Int} (h:∀ k,k < l.length→eD l k):∀ k,k < l.length→((k:Nat):Int)+1≤l.getD k default
  | 0,hk=>by have:=(h 0 hk).1;omega
  | k+1,hk=>by
    have a:=BT h k (by omega)
    have b:=(h (k+1) hk).2.2 (by omega)
    rw [Nat.add_sub_cancel] at b;omega
theorem ri {t:ATree} (hg:aJ t=true):t.sessions.length≤2147483647:=by
  have h:=(bt.1 hg).2.1
  rcases Nat.eq_zero_or_pos t.sessions.length with e | e
  · omega
  · have a:=BT h (t.sessions.length - 1) (by omega)
    have b:=(h (t.sessions.length - 1) (by omega)).2.1
    omega
set_option maxHeartbeats 8000000 in
theorem FA (t:ATree) (x:ATxn) (hw:t.wf) (hp:okS x.path) (hd:okS x.data) (h0:cV t x=0) (o3:x.op=3):ab Tryz.prog [] 32 [t.av,x.av] (ret (.tup [(ar t x).1.av,.d (.sl 2 ((ar t x).2.1.map AEvent.row)),I (ar t x).2.2])):=by
  have hwc:=lP t x hw hp hd
  obtain ⟨g1,g2,g3,g4,g5,g6,g7,g8⟩:=dX h0
  obtain ⟨h1,h2⟩:t.nodes.length*88≤140737488351232∧t.sessions.length*8≤140737488351232:=⟨hw.2.1.1,hw.2.2.1⟩
  have hcp:=jn t h1 h2
  have h400:t.nodes.length≤400:=(dg g1).2.1
  rw [h0] at hwc
  have hr:aY (pathsN t.nodes):=aT g1
  obtain ⟨m1,m2,hlt⟩:=g6 o3
  have hf1:=kg x.zxid t.nodes t.sessions x.path h1 hr
  have hpl:place (pathsN t.nodes) x.path≤(t.nodes.map ANode.row).length:=by have:=gk (pathsN t.nodes) x.path;rw [bj] at this;rw [List.length_map];exact this
  have hpl2:place (pathsN t.nodes) x.path≤t.nodes.length:=by rw [List.length_map] at hpl;exact hpl
  have hdone:(dn t x)=(⟨x.zxid,qP t.nodes x,t.sessions⟩,[⟨1,x.path⟩,⟨4,dirP x.path⟩]):=by unfold dn;rw [if_neg (by omega),if_neg (by omega),if_pos o3]
  generalize hN:t.nodes.insertIdx (place (pathsN t.nodes) x.path) (⟨x.path,x.data,⟨x.zxid,x.zxid,x.zxid,0,0,x.owner,0⟩⟩:ANode)=ns1
  have hN':t.nodes.insertIdx (place (pathsN t.nodes) x.path) (mkN x)=ns1:=hN
  have hl1:ns1.length=t.nodes.length+1:=by rw [←hN,eQ _ _ _ hpl2]
  have hp1:pathsN ns1=(pathsN t.nodes).insertIdx (place (pathsN t.nodes) x.path) x.path:=by rw [←hN,ne]
  have hr1:aY (pathsN ns1):=by rw [hp1];exact oO hr m1
  have hm1:dirP x.path∈pathsN ns1:=by rw [hp1,Cf (by rw [bj];exact hpl2)];exact .inr m2
  have hq:=(ap hr1 hm1).1
  rw [bj] at hq
  have hadd:qP t.nodes x=ns1.set (place (pathsN ns1) (dirP x.path)) (kidF 1 x.zxid (ns1.getD (place (pathsN ns1) (dirP x.path)) default)):=by unfold qP oU;rw [hN',if_pos hm1]
  have hf2:=(kg x.zxid ns1 t.sessions (dirP x.path) (by omega) hr1).re (by rw [decide_eq_true hm1])
  rw [hadd] at hdone
  generalize hn2:ns1.set (place (pathsN ns1) (dirP x.path)) (kidF 1 x.zxid (ns1.getD (place (pathsN ns1) (dirP x.path)) default))=ns2 at hdone
  have hl2:ns2.length=t.nodes.length+1:=by rw [←hn2,List.length_set,hl1]
  have hcc:=ik ns2 (by omega)
  unfold kidF at hn2
  have e1:(af x.path).1.1=dirP x.path:=rfl
  have tk1:List.take (t.nodes.length+1) (ns1.map ANode.row)=ns1.map ANode.row:=List.take_of_length_le (by rw [List.length_map];omega)
  have tk2:List.take (t.nodes.length+1) (ns2.map ANode.row)=ns2.map ANode.row:=List.take_of_length_le (by rw [List.length_map];omega)
  refine zJ Tryz.func32 Tryz.ntmps32 Tryz.results32 ?_;simp only [go_sem]
  (repeat' first
| (with_reducible refine AR.f ?_)
| refine an (by decide) ?_
| (with_reducible refine AWP.cond rfl ?_ ?_<;>intro hc<;>(try simp only [hcs,beq_iff_eq,ge_iff_le,gt_iff_lt] at hc))
| (refine aU fun Kk hKk=>(bG bp Tryz.func73 rfl (by kernel_rfl) (by simp [Tryz.ntmps73]) ?_);simp only [Tryz.ntmps73,Tryz.results73,List.toList_toArray,fk,List.length_nil,List.length_cons,Nat.reduceAdd,List.length_append,List.length_set,go_sem])
| (refine aU fun Kk hKk=>(bG bp Tryz.func128 rfl (by kernel_rfl) (by simp [Tryz.ntmps128]) ?_);simp only [Tryz.ntmps128,Tryz.results128,List.toList_toArray,fk,List.length_nil,List.length_cons,Nat.reduceAdd,List.length_append,List.length_set,go_sem])
| ((first | ((first | refine zP ((Plan.takes [0,1,2,3,4,6,7,8,9,10,11,12,13,14,15,16,17,18,19,20] (.fork 5 (Plan.takes [21,22,23,24,25,26] .done) 21 (Plan.takes [5,22,23,24,25,26] .done)))) (by decide +kernel) ?_ | refine zP ((Plan.takes [0,1,2,3,5,6,7] (.fork 4 (Plan.takes [8,9,10,11,12] .done) 8 (Plan.takes [4,9,10,11,12] .done)))) (by decide +kernel) ?_ | refine zP ((Plan.takes [0,1,2,3,4,5,6] (.fork 7 (Plan.takes [8,9,10] .done) 8 (Plan.takes [7,9,10] .done)))) (by decide +kernel) ?_ | (with_reducible first | refine zR ?_ | refine zQ (by decide +kernel) ?_ | refine zD (by decide +kernel) ?_ | refine zE (by decide +kernel) ?_ | refine zG (by decide +kernel) ?_));intro K hK) | ((first | refine zA hwc ?_ ?_ ?_ ?_ ?_ | refine zA hf1 ?_ ?_ ?_ ?_ ?_ | refine zA hf2 ?_ ?_ ?_ ?_ ?_ | refine zA hcc ?_ ?_ ?_ ?_ ?_ | refine zA (split_c x.path hp) ?_ ?_ ?_ ?_ ?_);(focus exact rfl);(focus exact rfl);iterate 2 (focus ((try simp (disch:=omega) only [go_sem,aa,o3,ANode.rins,hN,hl1,e1,hn2,hl2,tk1,tk2,ANode.rgetD,aX,ANode.rset,au,List.set_set])<;>(try omega)<;>fail))) | ((first | refine zN hcp rfl ?_ ?_ | refine zX hwc rfl ?_ ?_ | refine zY hcp ?_ ?_ | refine zX hcc rfl ?_ ?_ | refine zX (split_c x.path hp) rfl ?_ ?_);(focus ((try simp (disch:=omega) only [go_sem,aa,o3,ANode.rins,hN,hl1,e1,hn2,hl2,tk1,tk2,ANode.rgetD,aX,ANode.rset,au,List.set_set])<;>(try omega)<;>fail))) | ((first | refine zX hf1 rfl ?_ ?_);(focus ((try simp (disch:=omega) only [go_sem,aa,o3,ANode.rins,hN,hl1,e1,hn2,hl2,tk1,tk2,ANode.rgetD,aX,ANode.rset,au,List.set_set])<;>(try omega)<;>fail))) | ((first | refine zX hf2 rfl ?_ ?_);(focus ((try simp (disch:=omega) only [go_sem,aa,o3,ANode.rins,hN,hl1,e1,hn2,hl2,tk1,tk2,ANode.rgetD,aX,ANode.rset,au,List.set_set])<;>(try omega)<;>fail))) | (refine acallH_own (DL (t.nodes.map ANode.row) [.str x.path,.str x.data,.int .i64 x.zxid,.int .i64 x.zxid,.int .i64 x.zxid,.int .i64 0,.int .i64 0,.int .i64 x.owner,.int .i64 0] (place (pathsN t.nodes) x.path) hpl (by rw [List.length_map];omega)) ?_ ?_ ?_;(focus ((try simp (disch:=omega) only [inj,List.cons.injEq,and_self,List.nodup_cons,List.not_mem_nil,List.mem_cons,not_false_eq_true,List.nodup_nil,go_sem,aa,o3,ANode.rins,hN,hl1,e1,hn2,hl2,tk1,tk2,ANode.rgetD,aX,ANode.rset,au,List.set_set])<;>(try omega)<;>fail));(focus ((try simp (disch:=omega) only [inj,List.cons.injEq,and_self,List.nodup_cons,List.not_mem_nil,List.mem_cons,not_false_eq_true,List.nodup_nil,go_sem,aa,o3,ANode.rins,hN,hl1,e1,hn2,hl2,tk1,tk2,ANode.rgetD,aX,ANode.rset,au,List.set_set])<;>(try omega)<;>(try decide)<;>fail))) | (refine aend_in (v:=?_) hKk (by first | exact .inl rfl | exact .inr rfl) ?_ ?_ ?_;rotate_left;(focus ((try simp (disch:=omega) only [go_sem,aa,o3,ANode.rins,hN,hl1,e1,hn2,hl2,tk1,tk2,ANode.rgetD,aX,ANode.rset,au,List.set_set])<;>(try omega)<;>fail));(focus ((try simp (disch:=omega) only [go_sem,aa,o3,ANode.rins,hN,hl1,e1,hn2,hl2,tk1,tk2,ANode.rgetD,aX,ANode.rset,au,List.set_set])<;>(first | done | exact rfl)));clear hKk Kk) | ((first | (with_reducible refine aunder_i ?_ ?_<;>intro hg) | with_reducible intro hg)<;>(first | (exfalso;simp at hg;done) | (have hg':=hg;(try simp only [hcs,beq_iff_eq,ge_iff_le,gt_iff_lt] at hg');(try simp only [hg])))))<;>(try simp (disch:=omega) only [go_sem,aa,o3,ANode.rins,hN,hl1,e1,hn2,hl2,tk1,tk2,ANode.rgetD,aX,ANode.rset,au,List.set_set])<;>(repeat' with_reducible refine And.intro ?_ ?_)<;>(try (with_reducible refine hK _ ?_;clear hK K)))
| omega)
  all_goals first
    | (rw [eX h0 (by rw [hdone];exact hc)];(refine zF rfl ?_ ?_ ?_ ?_;(iterate 3 (focus ((try simp (disch:=omega) only [go_sem,aa,default])<;>(try omega)<;>fail)));(try simp (disch:=omega) only [go_sem,aa,default,I,B,S,zj]));done)
    | (rw [gW h0 (by rw [hdone];exact hc),hdone];(refine zF rfl ?_ ?_ ?_ ?_;(iterate 3 (focus ((try simp (disch:=omega) only [go_sem,aa,tk2])<;>(try omega)<;>fail)));(try simp (disch:=omega) only [go_sem,aa,tk2,I,B,S,zj]));done)
set_option maxHeartbeats 8000000 in
theorem GA (t:ATree) (x:ATxn) (hw:t.wf) (hp:okS x.path) (hd:okS x.data) (h0:cV t x=0) (o4:x.op=4):ab Tryz.prog [] 32 [t.av,x.av] (ret (.tup [(ar t x).1.av,.d (.sl 2 ((ar t x).2.1.map AEvent.row)),I (ar t x).2.2])):=by
  have hwc:=lP t x hw hp hd
  obtain ⟨g1,g2,g3,g4,g5,g6,g7,g8⟩:=dX h0
  obtain ⟨h1,h2⟩:t.nodes.length*88≤140737488351232∧t.sessions.length*8≤140737488351232:=⟨hw.2.1.1,hw.2.2.1⟩
  have hcp:=jn t h1 h2
  have h400:t.nodes.length≤400:=(dg g1).2.1
  rw [h0] at hwc
  have hr:aY (pathsN t.nodes):=aT g1
  obtain ⟨m1,_⟩:=g7 o4
  have hnr:x.path≠[47]:=(nf g2 (by omega)).2
  obtain ⟨m2,m3⟩:=BH g1 m1 hnr
  have hf1:=(kg x.zxid t.nodes t.sessions x.path h1 hr).re (by rw [decide_eq_true (show x.path∈pathsN t.nodes from m1)])
  have hpf:=ap hr m1
  have hpl:place (pathsN t.nodes) x.path < (t.nodes.map ANode.row).length:=by have:=hpf.1;rw [List.length_map];rwa [bj] at this
  have hpl2:place (pathsN t.nodes) x.path < t.nodes.length:=by rw [List.length_map] at hpl;exact hpl
  have hdone:(dn t x)=(⟨x.zxid,iz t.nodes x.path x.zxid,t.sessions⟩,nL x.path):=by unfold dn;rw [if_neg (by omega),if_neg (by omega),if_neg (by omega),if_pos o4]
  generalize hN:t.nodes.eraseIdx (place (pathsN t.nodes) x.path)=ns1
  have hl1:ns1.length=t.nodes.length - 1:=by rw [←hN,dI _ _ hpl2]
  have hp1:pathsN ns1=(pathsN t.nodes).eraseIdx (place (pathsN t.nodes) x.path):=by rw [←hN,cA]
  have hr1:aY (pathsN ns1):=by rw [hp1];exact iK hr _
  have hm1:dirP x.path∈pathsN ns1:=by rw [hp1];exact iY m2 (by rw [hpf.2];exact m3.symm)
  have hq:=(ap hr1 hm1).1
  rw [bj] at hq
  have hadd:iz t.nodes x.path x.zxid=ns1.set (place (pathsN ns1) (dirP x.path)) (kidF (-1) x.zxid (ns1.getD (place (pathsN ns1) (dirP x.path)) default)):=by unfold iz oU;rw [hN,if_pos hm1]
  have hf2:=(kg x.zxid ns1 t.sessions (dirP x.path) (by omega) hr1).re (by rw [decide_eq_true hm1])
  rw [hadd] at hdone
  generalize hn2:ns1.set (place (pathsN ns1) (dirP x.path)) (kidF (-1) x.zxid (ns1.getD (place (pathsN ns1) (dirP x.path)) default))=ns2 at hdone
  have hl2:ns2.length=t.nodes.length - 1:=by rw [←hn2,List.length_set,hl1]
  have hcc:=ik ns2 (by omega)
  unfold kidF at hn2
  have e1:(af x.path).1.1=dirP x.path:=rfl
  have tk1:List.take (t.nodes.length - 1) (ns1.map ANode.row)=ns1.map ANode.row:=List.take_of_length_le (by rw [List.length_map];omega)
  have tk2:List.take (t.nodes.length - 1) (ns2.map ANode.row)=ns2.map ANode.row:=List.take_of_length_le (by rw [List.length_map];omega)
  refine zJ Tryz.func32 Tryz.ntmps32 Tryz.results32 ?_;simp only [go_sem]
  (repeat' first
| (with_reducible refine AR.f ?_)
| refine an (by decide) ?_
| (with_reducible refine AWP.cond rfl ?_ ?_<;>intro hc<;>(try simp only [hcs,beq_iff_eq,ge_iff_le,gt_iff_lt] at hc))
| (refine aU fun Kk hKk=>(bG bp Tryz.func72 rfl (by kernel_rfl) (by simp [Tryz.ntmps72]) ?_);simp only [Tryz.ntmps72,Tryz.results72,List.toList_toArray,fk,List.length_nil,List.length_cons,Nat.reduceAdd,List.length_append,List.length_set,go_sem])
| (refine aU fun Kk hKk=>(bG bp Tryz.func128 rfl (by kernel_rfl) (by simp [Tryz.ntmps128]) ?_);simp only [Tryz.ntmps128,Tryz.results128,List.toList_toArray,fk,List.length_nil,List.length_cons,Nat.reduceAdd,List.length_append,List.length_set,go_sem])
| ((first | ((first | refine zP ((Plan.takes [0,1,2,3,4,5,6] (.fork 7 (Plan.takes [8,9,10] .done) 8 (Plan.takes [7,9,10] .done)))) (by decide +kernel) ?_ | (with_reducible first | refine zR ?_ | refine zQ (by decide +kernel) ?_ | refine zD (by decide +kernel) ?_ | refine zE (by decide +kernel) ?_ | refine zG (by decide +kernel) ?_));intro K hK) | ((first | refine zA hwc ?_ ?_ ?_ ?_ ?_ | refine zA hf1 ?_ ?_ ?_ ?_ ?_ | refine zA hf2 ?_ ?_ ?_ ?_ ?_ | refine zA hcc ?_ ?_ ?_ ?_ ?_ | refine zA (split_c x.path hp) ?_ ?_ ?_ ?_ ?_);(focus exact rfl);(focus exact rfl);iterate 2 (focus ((try simp (disch:=omega) only [go_sem,aa,o4,bx,hN,hl1,e1,hn2,hl2,tk1,tk2,ANode.rgetD,aX,ANode.rset,au,List.set_set])<;>(try omega)<;>fail))) | ((first | refine zN hcp rfl ?_ ?_ | refine zX hwc rfl ?_ ?_ | refine zY hcp ?_ ?_ | refine zX hcc rfl ?_ ?_ | refine zX (split_c x.path hp) rfl ?_ ?_);(focus ((try simp (disch:=omega) only [go_sem,aa,o4,bx,hN,hl1,e1,hn2,hl2,tk1,tk2,ANode.rgetD,aX,ANode.rset,au,List.set_set])<;>(try omega)<;>fail))) | ((first | refine zX hf1 rfl ?_ ?_);(focus ((try simp (disch:=omega) only [go_sem,aa,o4,bx,hN,hl1,e1,hn2,hl2,tk1,tk2,ANode.rgetD,aX,ANode.rset,au,List.set_set])<;>(try omega)<;>fail))) | ((first | refine zX hf2 rfl ?_ ?_);(focus ((try simp (disch:=omega) only [go_sem,aa,o4,bx,hN,hl1,e1,hn2,hl2,tk1,tk2,ANode.rgetD,aX,ANode.rset,au,List.set_set])<;>(try omega)<;>fail))) | (refine acallH_own (uA (t.nodes.map ANode.row) (place (pathsN t.nodes) x.path) hpl (by rw [List.length_map];omega)) ?_ ?_ ?_;(focus ((try simp (disch:=omega) only [inj,List.cons.injEq,and_self,List.nodup_cons,List.not_mem_nil,List.mem_cons,not_false_eq_true,List.nodup_nil,go_sem,aa,o4,bx,hN,hl1,e1,hn2,hl2,tk1,tk2,ANode.rgetD,aX,ANode.rset,au,List.set_set])<;>(try omega)<;>fail));(focus ((try simp (disch:=omega) only [inj,List.cons.injEq,and_self,List.nodup_cons,List.not_mem_nil,List.mem_cons,not_false_eq_true,List.nodup_nil,go_sem,aa,o4,bx,hN,hl1,e1,hn2,hl2,tk1,tk2,ANode.rgetD,aX,ANode.rset,au,List.set_set])<;>(try omega)<;>(try decide)<;>fail))) | (refine aend_in (v:=?_) hKk (by first | exact .inl rfl | exact .inr rfl) ?_ ?_ ?_;rotate_left;(focus ((try simp (disch:=omega) only [go_sem,aa,o4,bx,hN,hl1,e1,hn2,hl2,tk1,tk2,ANode.rgetD,aX,ANode.rset,au,List.set_set])<;>(try omega)<;>fail));(focus ((try simp (disch:=omega) only [go_sem,aa,o4,bx,hN,hl1,e1,hn2,hl2,tk1,tk2,ANode.rgetD,aX,ANode.rset,au,List.set_set])<;>(first | done | exact rfl)));clear hKk Kk) | ((first | (with_reducible refine aunder_i ?_ ?_<;>intro hg) | with_reducible intro hg)<;>(first | (exfalso;simp at hg;done) | (have hg':=hg;(try simp only [hcs,beq_iff_eq,ge_iff_le,gt_iff_lt] at hg');(try simp only [hg])))))<;>(try simp (disch:=omega) only [go_sem,aa,o4,bx,hN,hl1,e1,hn2,hl2,tk1,tk2,ANode.rgetD,aX,ANode.rset,au,List.set_set])<;>(repeat' with_reducible refine And.intro ?_ ?_)<;>(try (with_reducible refine hK _ ?_;clear hK K)))
| omega)
  all_goals first
    | (rw [eX h0 (by rw [hdone];exact hc)];(refine zF rfl ?_ ?_ ?_ ?_;(iterate 3 (focus ((try simp (disch:=omega) only [go_sem,aa,default])<;>(try omega)<;>fail)));(try simp (disch:=omega) only [go_sem,aa,default,I,B,S,zj]));done)
    | (rw [gW h0 (by rw [hdone];exact hc),hdone];(refine zF rfl ?_ ?_ ?_ ?_;(iterate 3 (focus ((try simp (disch:=omega) only [go_sem,aa,tk2,nL])<;>(try omega)<;>fail)));(try simp (disch:=omega) only [go_sem,aa,tk2,nL,I,B,S,zj]));done)
set_option maxHeartbeats 8000000 in
theorem Iw (t:ATree) (x:ATxn) (hw:t.wf) (hp:okS x.path) (hd:okS x.data) (h0:cV t x=0) (o5:x.op=5):ab Tryz.prog [] 32 [t.av,x.av] (ret (.tup [(ar t x).1.av,.d (.sl 2 ((ar t x).2.1.map AEvent.row)),I (ar t x).2.2])):=by
  have hwc:=lP t x hw hp hd
  obtain ⟨g1,g2,g3,g4,g5,g6,g7,g8⟩:=dX h0
  obtain ⟨h1,h2⟩:t.nodes.length*88≤140737488351232∧t.sessions.length*8≤140737488351232:=⟨hw.2.1.1,hw.2.2.1⟩
  have hcp:=jn t h1 h2
  have h400:t.nodes.length≤400:=(dg g1).2.1
  rw [h0] at hwc
  have hr:aY (pathsN t.nodes):=aT g1
  have m1:=g8 o5
  have hf1:=(kg x.zxid t.nodes t.sessions x.path h1 hr).re (by rw [decide_eq_true (show x.path∈pathsN t.nodes from m1)])
  have hq:=(ap hr m1).1
  rw [bj] at hq
  have hdone:(dn t x)=(⟨x.zxid,setN t.nodes x,t.sessions⟩,[⟨3,x.path⟩]):=by unfold dn;rw [if_neg (by omega),if_neg (by omega),if_neg (by omega),if_neg (by omega)]
  have hadd:setN t.nodes x=t.nodes.set (place (pathsN t.nodes) x.path) (setF x (t.nodes.getD (place (pathsN t.nodes) x.path) default)):=rfl
  rw [hadd] at hdone
  generalize hn2:t.nodes.set (place (pathsN t.nodes) x.path) (setF x (t.nodes.getD (place (pathsN t.nodes) x.path) default))=ns2 at hdone
  have hl2:ns2.length=t.nodes.length:=by rw [←hn2,List.length_set]
  have hcc:=ik ns2 (by omega)
  unfold setF at hn2
  have tk2:List.take t.nodes.length (ns2.map ANode.row)=ns2.map ANode.row:=List.take_of_length_le (by rw [List.length_map];omega)
  refine zJ Tryz.func32 Tryz.ntmps32 Tryz.results32 ?_;simp only [go_sem]
  (repeat' first
| (with_reducible refine AR.f ?_)
| refine an (by decide) ?_
| (with_reducible refine AWP.cond rfl ?_ ?_<;>intro hc<;>(try simp only [hcs,beq_iff_eq,ge_iff_le,gt_iff_lt] at hc))
| ((first | ((first | refine zP ((Plan.takes [0,1,2,3,4,5,6,7,8,9,10] .done)) (by decide +kernel) ?_ | refine zP ((Plan.takes [0,1,2,3,4,5,6,7,8,9,10,11,12,13,14,16,17,18] (.fork 15 (Plan.takes [19,20,21,22,23] .done) 19 (Plan.takes [15,20,21,22,23] .done)))) (by decide +kernel) ?_ | refine zP ((Plan.takes [0,1,2,3,5,6,7] (.fork 4 (Plan.takes [8,9,10,11,12] .done) 8 (Plan.takes [4,9,10,11,12] .done)))) (by decide +kernel) ?_ | refine zP ((Plan.takes [0,1,2,3,4,5,6] (.fork 7 (Plan.takes [8,9,10] .done) 8 (Plan.takes [7,9,10] .done)))) (by decide +kernel) ?_ | (with_reducible first | refine zR ?_ | refine zQ (by decide +kernel) ?_ | refine zD (by decide +kernel) ?_ | refine zE (by decide +kernel) ?_ | refine zG (by decide +kernel) ?_));intro K hK) | ((first | refine zA hwc ?_ ?_ ?_ ?_ ?_ | refine zA hf1 ?_ ?_ ?_ ?_ ?_ | refine zA hcc ?_ ?_ ?_ ?_ ?_);(focus exact rfl);(focus exact rfl);iterate 2 (focus ((try simp (disch:=omega) only [go_sem,aa,o5,hn2,hl2,tk2,ANode.rgetD,aX,ANode.rset,au,List.set_set])<;>(try omega)<;>fail))) | ((first | refine zN hcp rfl ?_ ?_ | refine zX hwc rfl ?_ ?_ | refine zY hcp ?_ ?_ | refine zX hf1 rfl ?_ ?_ | refine zX hcc rfl ?_ ?_);(focus ((try simp (disch:=omega) only [go_sem,aa,o5,hn2,hl2,tk2,ANode.rgetD,aX,ANode.rset,au,List.set_set])<;>(try omega)<;>fail))) | ((first | (with_reducible refine aunder_i ?_ ?_<;>intro hg) | with_reducible intro hg)<;>(first | (exfalso;simp at hg;done) | (have hg':=hg;(try simp only [hcs,beq_iff_eq,ge_iff_le,gt_iff_lt] at hg');(try simp only [hg])))))<;>(try simp (disch:=omega) only [go_sem,aa,o5,hn2,hl2,tk2,ANode.rgetD,aX,ANode.rset,au,List.set_set])<;>(repeat' with_reducible refine And.intro ?_ ?_)<;>(try (with_reducible refine hK _ ?_;clear hK K)))
| omega)
  all_goals first
    | (rw [eX h0 (by rw [hdone];exact hc)];(refine zF rfl ?_ ?_ ?_ ?_;(iterate 3 (focus ((try simp (disch:=omega) only [go_sem,aa,default])<;>(try omega)<;>fail)));(try simp (disch:=omega) only [go_sem,aa,default,I,B,S,zj]));done)
    | (rw [gW h0 (by rw [hdone];exact hc),hdone];(refine zF rfl ?_ ?_ ?_ ?_;(iterate 3 (focus ((try simp (disch:=omega) only [go_sem,aa,tk2])<;>(try omega)<;>fail)));(try simp (disch:=omega) only [go_sem,aa,tk2,I,B,S,zj]));done)
set_option maxHeartbeats 8000000 in
theorem EQ (t:ATree) (x:ATxn) (hw:t.wf) (hp:okS x.path) (hd:okS x.data) (h0:cV t x=0) (o1:x.op=1):ab Tryz.prog [] 32 [t.av,x.av] (ret (.tup [(ar t x).1.av,.d (.sl 2 ((ar t x).2.1.map AEvent.row)),I (ar t x).2.2])):=by
  have hwc:=lP t x hw hp hd
  obtain ⟨g1,g2,g3,g4,g5,g6,g7,g8⟩:=dX h0
  obtain ⟨h1,h2⟩:t.nodes.length*88≤140737488351232∧t.sessions.length*8≤140737488351232:=⟨hw.2.1.1,hw.2.2.1⟩
  have hcp:=jn t h1 h2
  have h400:t.nodes.length≤400:=(dg g1).2.1
  rw [h0] at hwc
  have hri:fB t.sessions:=jE g1
  have hss:t.sessions.length≤2147483647:=ri g1
  have hb1:=v7 t.sessions x.session h2 hri
  have hpl:aS t.sessions x.session≤(t.sessions.map cO).length:=by rw [List.length_map];exact List.findIdx_le_length
  have hpl2:aS t.sessions x.session≤t.sessions.length:=List.findIdx_le_length
  have hdone:(dn t x)=(⟨x.zxid,t.nodes,t.sessions.insertIdx (aS t.sessions x.session) x.session⟩,[]):=by unfold dn;rw [if_pos o1]
  generalize hN:t.sessions.insertIdx (aS t.sessions x.session) x.session=ss1 at hdone
  have hl1:ss1.length=t.sessions.length+1:=by rw [←hN,eQ _ _ _ hpl2]
  have hri1:(t.sessions.map cO).insertIdx (aS t.sessions x.session) [DV.int .i64 x.session]=ss1.map cO:=by rw [←hN];exact jM cO t.sessions _ x.session
  have tk2:List.take (t.sessions.length+1) (ss1.map cO)=ss1.map cO:=List.take_of_length_le (by rw [List.length_map];omega)
  have hcc:=ik t.nodes h1
  refine zJ Tryz.func32 Tryz.ntmps32 Tryz.results32 ?_;simp only [go_sem]
  (repeat' first
| (with_reducible refine AR.f ?_)
| refine an (by decide) ?_
| (with_reducible refine AWP.cond rfl ?_ ?_<;>intro hc<;>(try simp only [hcs,beq_iff_eq,ge_iff_le,gt_iff_lt] at hc))
| ((first | ((first | refine zP ((Plan.takes [0,1,2,3,4,6,7,8] (.fork 5 (Plan.takes [9,10,11,12,13,14] .done) 9 (Plan.takes [5,10,11,12,13,14] .done)))) (by decide +kernel) ?_ | refine zP ((Plan.takes [0,1,2,3,4,5,6] (.fork 7 (Plan.takes [8,9,10] .done) 8 (Plan.takes [7,9,10] .done)))) (by decide +kernel) ?_ | (with_reducible first | refine zR ?_ | refine zQ (by decide +kernel) ?_ | refine zD (by decide +kernel) ?_ | refine zE (by decide +kernel) ?_ | refine zG (by decide +kernel) ?_));intro K hK) | ((first | refine zA hwc ?_ ?_ ?_ ?_ ?_ | refine zA hb1 ?_ ?_ ?_ ?_ ?_ | refine zA hcc ?_ ?_ ?_ ?_ ?_);(focus exact rfl);(focus exact rfl);iterate 2 (focus ((try simp (disch:=omega) only [go_sem,aa,o1,hri1,hl1,tk2])<;>(try omega)<;>fail))) | ((first | refine zN hcp rfl ?_ ?_ | refine zN hb1 rfl ?_ ?_ | refine zX hwc rfl ?_ ?_ | refine zY hcp ?_ ?_ | refine zX hcc rfl ?_ ?_);(focus ((try simp (disch:=omega) only [go_sem,aa,o1,hri1,hl1,tk2])<;>(try omega)<;>fail))) | ((first | refine zX hb1 rfl ?_ ?_ | refine zY hb1 ?_ ?_);(focus ((try simp (disch:=omega) only [go_sem,aa,o1,hri1,hl1,tk2])<;>(try omega)<;>fail))) | (refine acallH_own (Fb (t.sessions.map cO) [.int .i64 x.session] (aS t.sessions x.session) hpl (by rw [List.length_map];omega)) ?_ ?_ ?_;(focus ((try simp (disch:=omega) only [inj,List.cons.injEq,and_self,List.nodup_cons,List.not_mem_nil,List.mem_cons,not_false_eq_true,List.nodup_nil,go_sem,aa,o1,hri1,hl1,tk2])<;>(try omega)<;>fail));(focus ((try simp (disch:=omega) only [inj,List.cons.injEq,and_self,List.nodup_cons,List.not_mem_nil,List.mem_cons,not_false_eq_true,List.nodup_nil,go_sem,aa,o1,hri1,hl1,tk2])<;>(try omega)<;>(try decide)<;>fail))) | ((first | (with_reducible refine aunder_i ?_ ?_<;>intro hg) | with_reducible intro hg)<;>(first | (exfalso;simp at hg;done) | (have hg':=hg;(try simp only [hcs,beq_iff_eq,ge_iff_le,gt_iff_lt] at hg');(try simp only [hg])))))<;>(try simp (disch:=omega) only [go_sem,aa,o1,hri1,hl1,tk2])<;>(repeat' with_reducible refine And.intro ?_ ?_)<;>(try (with_reducible refine hK _ ?_;clear hK K)))
| omega)
  all_goals first
    | (rw [eX h0 (by rw [hdone];exact hc)];(refine zF rfl ?_ ?_ ?_ ?_;(iterate 3 (focus ((try simp (disch:=omega) only [go_sem,aa,default])<;>(try omega)<;>fail)));(try simp (disch:=omega) only [go_sem,aa,default,I,B,S,zj]));done)
    | (rw [gW h0 (by rw [hdone];exact hc),hdone];(refine zF rfl ?_ ?_ ?_ ?_;(iterate 3 (focus ((try simp (disch:=omega) only [go_sem,aa,tk2])<;>(try omega)<;>fail)));(try simp (disch:=omega) only [go_sem,aa,tk2,I,B,S,zj]));done)
attribute [go_sem] Tryz.ntmps72 Tryz.results72 Tryz.ntmps128 Tryz.results128
theorem D8 {t:ATree} {p:List UInt8} {n:Nat} (h:kidsN t p n=0) {j:Nat} (hj:j < n):tA t j≠p:=by
  unfold kidsN at h
  rw [List.length_eq_zero_iff,List.filter_eq_nil_iff] at h
  have:=h j (List.mem_range.2 hj)
  simpa using this
structure CloseOk (t:ATree) (s:Int) (k:Nat) (ns:List ANode) (es:List AEvent):Prop where
  rises:aY (pathsN ns)
  rest:∀ j,k≤j→j < t.nodes.length→(nd t j).path∈pathsN ns
  dirs:∀ j,j < t.nodes.length→(nd t j).stat.owner=s→dirP (nd t j).path∈pathsN ns
  len:ns.length≤t.nodes.length
  elen:es.length≤2*k
theorem pw {t:ATree} {s z:Int} (hg:aJ t=true) (hs:1≤s) {k:Nat} (hk:k < t.nodes.length) (ho:(nd t k).stat.owner=s):bF (nd t k).path=true∧dirP (nd t k).path∈aM t∧dirP (nd t k).path≠(nd t k).path∧∀ j,j < t.nodes.length→dirP (nd t j).path≠(nd t k).path:=by
  obtain ⟨hh,_,hA,hB⟩:=bt.1 hg
  have hmem:(nd t k).path∈aM t:=by rw [←aW];exact cz _ _ (by rw [aQ];exact hk)
  have hnr:(nd t k).path≠[47]:=fun e=>by
    have h0:k=0:=by
      apply Classical.byContradiction;intro hk0
      have:=qE (t:=t) (i:=k) (fun j hj=>hA j (by omega)) (by omega)
      rw [hh.2.2.1,e] at this;exact List.lt_irrefl _ this
    subst h0;rw [hh.2.2.2.1] at ho;omega
  obtain ⟨a,b⟩:=BH hg hmem hnr
  refine ⟨(hA k hk).1,a,b,fun j hj=>?_⟩
  obtain ⟨_,c,_,d⟩:=hB k hk
  have hz:=(c (by omega)).2
  rw [hz] at d
  exact D8 (by omega) hj
theorem ov {t:ATree} {s z:Int} (hg:aJ t=true) (hs:1≤s):∀ k,k≤t.nodes.length→CloseOk t s k (bd t s z k).1 (bd t s z k).2
  | 0,_=>⟨aT hg,fun j _ hj=>by show (nd t j).path∈aM t;rw [←aW];exact cz _ _ (by rw [aQ];exact hj),fun j hj ho=>(pw (z:=z) hg hs hj ho).2.1,Nat.le_refl _,Nat.le_refl _⟩
  | k + 1,h=>by
    have ih:=ov (z:=z) hg hs k (by omega)
    unfold bd
    by_cases ho:(t.nodes.getD k default).stat.owner=s
    · rw [if_pos ho]
      have hm:=ih.rest k (Nat.le_refl _) (by omega)
      have hpf:=ap ih.rises hm
      obtain ⟨_,_,_,hne⟩:=pw (z:=z) hg hs (k:=k) (by omega) ho
      have hp:pathsN (iz (bd t s z k).1 (t.nodes.getD k default).path z)=(pathsN (bd t s z k).1).eraseIdx (place (pathsN (bd t s z k).1) (nd t k).path):=by
        unfold iz;rw [m5,cA];rfl
      refine ⟨by rw [hp];exact iK ih.rises _,fun j hj hj2=>?_,fun j hj hjo=>?_,?_,?_⟩
      · rw [hp]
        refine iY (ih.rest j (by omega) hj2) ?_
        rw [hpf.2]
        have:=bg (aT hg) (i:=k) (j:=j) (by omega) (by rw [aQ];exact hj2)
        rw [aW,aW] at this
        intro e;rw [e] at this;exact List.lt_irrefl _ this
      · rw [hp]
        refine iY (ih.dirs j hj hjo) ?_
        rw [hpf.2];exact (hne j hj).symm
      · have hl:=hpf.1
        rw [bj] at hl
        show (iz _ _ _).length≤_
        unfold iz
        rw [sA]
        have:=dI _ _ hl
        unfold nd at this
        rw [this]
        have:=ih.len;omega
      · show ((bd t s z k).2++nL _).length≤_
        rw [List.length_append];have:=ih.elen
        unfold nL;simp only [List.length_cons,List.length_nil];omega
    · rw [if_neg ho]
      exact ⟨ih.rises,fun j hj hj2=>ih.rest j (by omega) hj2,ih.dirs,ih.len,by have:=ih.elen;omega⟩
set_option maxHeartbeats 8000000 in
theorem GZ (t:ATree) (x:ATxn) (hw:t.wf) (hp:okS x.path) (hd:okS x.data) (h0:cV t x=0) (o2:x.op=2):ab Tryz.prog [] 32 [t.av,x.av] (ret (.tup [(ar t x).1.av,.d (.sl 2 ((ar t x).2.1.map AEvent.row)),I (ar t x).2.2])):=by
  have hwc:=lP t x hw hp hd
  obtain ⟨g1,g2,g3,g4,g5,g6,g7,g8⟩:=dX h0
  obtain ⟨h1,h2⟩:t.nodes.length*88≤140737488351232∧t.sessions.length*8≤140737488351232:=⟨hw.2.1.1,hw.2.2.1⟩
  have hcp:=jn t h1 h2
  have h400:t.nodes.length≤400:=(dg g1).2.1
  rw [h0] at hwc
  have hri:fB t.sessions:=jE g1
  have ms:=g5 (by omega)
  have hb1:=(v7 t.sessions x.session h2 hri).re (by rw [decide_eq_true ms])
  have hpl:aS t.sessions x.session < (t.sessions.map cO).length:=by rw [List.length_map];exact uU hri ms
  have hpl2:aS t.sessions x.session < t.sessions.length:=by rw [List.length_map] at hpl;exact hpl
  have hdone:(dn t x)=(⟨x.zxid,(bd t x.session x.zxid t.nodes.length).1,t.sessions.eraseIdx (aS t.sessions x.session)⟩,(bd t x.session x.zxid t.nodes.length).2):=by unfold dn;rw [if_neg (by omega),if_pos o2]
  generalize hN:t.sessions.eraseIdx (aS t.sessions x.session)=ss1 at hdone
  have hl1:ss1.length=t.sessions.length - 1:=by rw [←hN,dI _ _ hpl2]
  refine zJ Tryz.func32 Tryz.ntmps32 Tryz.results32 ?_;simp only [go_sem]
  (refine zW qw (z4 hwc hcp hb1 (ow (HD (t.sessions.map cO) (aS t.sessions x.session) hpl (by rw [List.length_map];omega)))) (zx @o2 (zx @bx (zx @hN @hl1))) (z1 ?_)<;>(repeat with_reducible intro hc))
  refine AWP.weaken (aG.nilOwnC 5 3 2 rfl rfl) ?_
  simp only [go_sem]
  refine AWP.loopB (ι:=Nat) (fun k=>k≤t.nodes.length) (fun k=>t.nodes.length - k) [3,4,8,90,91] (fun k=>[(92,I k)]) (fun k=>[.cells [.d (.int .i64 t.zxid),.d (.sl 9 (t.nodes.map ANode.row)),.d (.sl 1 (t.sessions.map cO))],.cells [I x.zxid,I 2,I x.session,S x.path,S x.data,I x.version,I x.owner],.cells [I 0,.d (.sc (.slice none 0 0)),.d (.sc (.slice none 0 0))],.rows 9 ((bd t x.session x.zxid k).1.map ANode.row),.dead,.cells [I x.zxid,.osl 3 9 0 (bd t x.session x.zxid k).1.length,.osl 6 1 0 (t.sessions.length - 1),.osl 7 2 0 (bd t x.session x.zxid k).2.length],.rows 1 (ss1.map cO),.rows 2 ((bd t x.session x.zxid k).2.map AEvent.row)]) 0 ?_ ?_ ?_
  · omega
  · simp only [go_sem,bd];exact zSm trivial
  intro k hk
  have ci:=ov (z:=x.zxid) g1 (eU g2).2.2.1 k hk
  have hnext:bd t x.session x.zxid (k+1)=if (t.nodes.getD k default).stat.owner=x.session then (iz (bd t x.session x.zxid k).1 (t.nodes.getD k default).path x.zxid,(bd t x.session x.zxid k).2++nL (t.nodes.getD k default).path) else bd t x.session x.zxid k:=rfl
  simp only [go_sem]
  by_cases hkk:k < t.nodes.length
  case neg=>
    obtain rfl:k=t.nodes.length:=by omega
    generalize bd t x.session x.zxid t.nodes.length=cl at ci hdone
    obtain ⟨ns,es⟩:=cl
    have hcc:=ik ns (by have:=ci.len;simp only at this;omega)
    have tks:List.take (t.sessions.length - 1) (ss1.map cO)=ss1.map cO:=List.take_of_length_le (by rw [List.length_map];omega)
    (repeat' first
  | (with_reducible refine AR.f ?_)
  | refine an (by decide) ?_
  | (with_reducible refine AWP.cond rfl ?_ ?_<;>intro hc<;>(try simp only [hcs,beq_iff_eq,ge_iff_le,gt_iff_lt] at hc))
  | ((first | ((first | refine zP ((Plan.takes [0,1,2,3,4,5,6] (.fork 7 (Plan.takes [8,9,10] .done) 8 (Plan.takes [7,9,10] .done)))) (by decide +kernel) ?_ | (with_reducible first | refine zR ?_ | refine zQ (by decide +kernel) ?_ | refine zD (by decide +kernel) ?_ | refine zE (by decide +kernel) ?_ | refine zG (by decide +kernel) ?_));intro K hK) | ((first | refine zA hcc ?_ ?_ ?_ ?_ ?_);(focus exact rfl);(focus exact rfl);iterate 2 (focus ((try simp (disch:=omega) only [go_sem,aa])<;>(try omega)<;>fail))) | ((first | refine zX hcc rfl ?_ ?_);(focus ((try simp (disch:=omega) only [go_sem,aa])<;>(try omega)<;>fail))) | ((first | (with_reducible refine aunder_i ?_ ?_<;>intro hg) | with_reducible intro hg)<;>(first | (exfalso;simp at hg;done) | (have hg':=hg;(try simp only [hcs,beq_iff_eq,ge_iff_le,gt_iff_lt] at hg');(try simp only [hg])))))<;>(try simp (disch:=omega) only [go_sem,aa])<;>(repeat' with_reducible refine And.intro ?_ ?_)<;>(try (with_reducible refine hK _ ?_;clear hK K)))
  | omega)
    all_goals first
      | (rw [eX h0 (by rw [hdone];exact hc)];(refine zF rfl ?_ ?_ ?_ ?_;(iterate 3 (focus ((try simp (disch:=omega) only [go_sem,aa,default])<;>(try omega)<;>fail)));(try simp (disch:=omega) only [go_sem,aa,default,I,B,S,zj]));done)
      | (rw [gW h0 (by rw [hdone];exact hc),hdone];(refine zF rfl ?_ ?_ ?_ ?_;(iterate 3 (focus ((try simp (disch:=omega) only [go_sem,aa,tks,I,S])<;>(try omega)<;>fail)));(try simp (disch:=omega) only [go_sem,aa,tks,I,S,I,B,S,zj]));done)
  by_cases how:(t.nodes.getD k default).stat.owner=x.session
  · rw [if_pos how] at hnext
    have hone:=pw (z:=x.zxid) g1 (eU g2).2.2.1 hkk how
    have hokp:=(w9 hw k).1
    have hm:=ci.rest k (Nat.le_refl _) hkk
    have hdir:=ci.dirs k hkk how
    have hr:=ci.rises
    have hlen:=ci.len
    have helen:=ci.elen
    clear ci
    unfold nd at hone hm hdir
    generalize bd t x.session x.zxid k=cl at hnext hm hdir hr hlen helen
    obtain ⟨ns,es⟩:=cl
    simp only at hnext hm hdir hr hlen helen
    generalize hpp:(t.nodes.getD k default).path=p at hnext hm hdir hone hokp
    have hf1:=(kg x.zxid ns ss1 p (by omega) hr).re (by rw [decide_eq_true hm])
    have hpf:=ap hr hm
    have hdpl:place (pathsN ns) p < (ns.map ANode.row).length:=by have:=hpf.1;rw [List.length_map];rwa [bj] at this
    have hdpl2:place (pathsN ns) p < ns.length:=by rw [List.length_map] at hdpl;exact hdpl
    generalize hM:ns.eraseIdx (place (pathsN ns) p)=ns1
    have hlm:ns1.length=ns.length - 1:=by rw [←hM,dI _ _ hdpl2]
    have hp1:pathsN ns1=(pathsN ns).eraseIdx (place (pathsN ns) p):=by rw [←hM,cA]
    have hr1:aY (pathsN ns1):=by rw [hp1];exact iK hr _
    have hm1:dirP p∈pathsN ns1:=by rw [hp1];exact iY hdir (by rw [hpf.2];exact hone.2.2.1.symm)
    have hq:=(ap hr1 hm1).1
    rw [bj] at hq
    have hadd:iz ns p x.zxid=ns1.set (place (pathsN ns1) (dirP p)) (kidF (-1) x.zxid (ns1.getD (place (pathsN ns1) (dirP p)) default)):=by unfold iz oU;rw [hM,if_pos hm1]
    have hf2:=(kg x.zxid ns1 ss1 (dirP p) (by omega) hr1).re (by rw [decide_eq_true hm1])
    rw [hadd] at hnext
    generalize hn2:ns1.set (place (pathsN ns1) (dirP p)) (kidF (-1) x.zxid (ns1.getD (place (pathsN ns1) (dirP p)) default))=ns2 at hnext
    have hl2:ns2.length=ns.length - 1:=by rw [←hn2,List.length_set,hlm]
    unfold kidF at hn2
    have e1:(af p).1.1=dirP p:=rfl
    have tk1:List.take (ns.length - 1) (ns1.map ANode.row)=ns1.map ANode.row:=List.take_of_length_le (by rw [List.length_map];omega)
    have tks:List.take (t.sessions.length - 1) (ss1.map cO)=ss1.map cO:=List.take_of_length_le (by rw [List.length_map];omega)
    (refine zW qw (zc (ic Tryz.func72) (zc (ic Tryz.func128) (z4 hf1 hf2 (split_c p hokp) (ow (uA (ns.map ANode.row) (place (pathsN ns) p) hdpl (by rw [List.length_map];omega)))))) (zx @how (zx @hpp (zx @bx (zx @hM (zx @hlm (zx @e1 (zx @hn2 (zx @hl2 (zx @tk1 (zx @tks (zx @ANode.rgetD (zx @aX (zx @ANode.rset (zx @au (zx @List.set_set.{0} (zx @AEvent.rsnoc (zx @eo @tp))))))))))))))))) (z1 ?_)<;>(repeat with_reducible intro hc))
    refine ⟨k+1,by omega,by omega,?_⟩
    rw [hnext]
    exact zFr [0,1,2,9,4,5,6,13] (zx @nL.eq_1 (zx @List.length_append.{0} (zx @List.append_assoc.{0} (zx @List.cons_append.{0} (zx @List.nil_append.{0} (zx @hl2 (zx @tks (zx @Nat.add_assoc (zx @I.eq_1 @S.eq_1)))))))))
  · rw [if_neg how] at hnext
    (refine zW qw zn trivial (z1 ?_)<;>(repeat with_reducible intro hc))
    refine ⟨k+1,by omega,by omega,?_⟩
    rw [hnext]
    exact zFr [0,1,2,3,4,5,6,7] trivial
theorem fV (t:ATree) (x:ATxn) (hw:t.wf) (hp:okS x.path) (hd:okS x.data):ab Tryz.prog [] 32 [t.av,x.av] (ret (.tup [(ar t x).1.av,.d (.sl 2 ((ar t x).2.1.map AEvent.row)),I (ar t x).2.2])):=by
  by_cases h0:cV t x=0
  case neg=>
    have hwc:=lP t x hw hp hd
    rw [oC h0]
    refine zJ Tryz.func32 Tryz.ntmps32 Tryz.results32 ?_;simp only [go_sem]
    (refine zW qw (z1 hwc) trivial (z1 ?_)<;>(repeat with_reducible intro hc))
    all_goals first | (exfalso;omega) | skip
    exact zEe dfl
  obtain ⟨o1,o2,_,_⟩:=eU (dX h0).2.1
  rcases (by omega:x.op=1∨x.op=2∨x.op=3∨x.op=4∨x.op=5) with o | o | o | o | o
  · exact EQ t x hw hp hd h0 o
  · exact GZ t x hw hp hd h0 o
  · exact FA t x hw hp hd h0 o
  · exact GA t x hw hp hd h0 o
  · exact Iw t x hw hp hd h0 o
def FF (l:List Int) (key:Int):List Int:=l.filter fun s=>decide (s < key)
def HI (l:List Int) (key:Int):List Int:=l.filter fun s=>decide (key < s)
theorem Av {l:List Int} {key:Int} (hr:fB l) (h:¬ key∈l):FF l key++key::HI l key=l.insertIdx (aS l key) key:=by
  have hp:aS l key≤l.length:=List.findIdx_le_length
  have gd (j:Nat) (hj:j < l.length):l.getD j default=l[j]:=by rw [List.getD_eq_getElem?_getD,List.getElem?_eq_getElem hj];rfl
  have lo:∀ j,j < aS l key→l.getD j default < key:=fun j hj=>by
    have:=List.not_of_lt_findIdx (p:=fun x=>!decide (x < key)) (xs:=l) hj
    rw [gd j (by omega)]
    simpa using this
  have hi:∀ j,aS l key≤j→j < l.length→key < l.getD j default:=fun j h1 h2=>by
    have a:¬ l.getD (aS l key) default < key:=by
      have:=List.findIdx_getElem (p:=fun x=>!decide (x < key)) (xs:=l) (w:=(by unfold aS at h1;omega))
      rw [Bool.not_eq_true',decide_eq_false_iff_not] at this
      rw [gd _ (by omega)]
      exact this
    have c:l.getD (aS l key) default≠key:=fun e=>h (by rw [←e];exact cz _ _ (by omega))
    by_cases e:aS l key=j
    · rw [←e];omega
    · have:=ek hr (i:=aS l key) (j:=j) (by omega) h2;omega
  generalize aS l key=p at *
  have e1:FF l key=l.take p:=by
    unfold FF
    conv=>lhs;rw [←List.take_append_drop p l]
    rw [List.filter_append]
    have a1:(l.take p).filter (fun s=>decide (s < key))=l.take p:=by
      rw [List.filter_eq_self]
      intro f hf
      obtain ⟨j,hj,rfl⟩:=List.mem_take_iff_getElem.1 hf
      have:=lo j (by omega)
      rw [gd j (by omega)] at this;simpa using this
    have a2:(l.drop p).filter (fun s=>decide (s < key))=[]:=by
      rw [List.filter_eq_nil_iff]
      intro f hf
      obtain ⟨j,hj,rfl⟩:=List.mem_drop_iff_getElem.1 hf
      have:=hi (p+j) (by omega) (by omega)
      rw [gd _ (by omega)] at this
      rw [decide_eq_true_eq];omega
    rw [a1,a2,List.append_nil]
  have e2:HI l key=l.drop p:=by
    unfold HI
    conv=>lhs;rw [←List.take_append_drop p l]
    rw [List.filter_append]
    have a1:(l.drop p).filter (fun s=>decide (key < s))=l.drop p:=by
      rw [List.filter_eq_self]
      intro f hf
      obtain ⟨j,hj,rfl⟩:=List.mem_drop_iff_getElem.1 hf
      have:=hi (p+j) (by omega) (by omega)
      rw [gd _ (by omega)] at this;simpa using this
    have a2:(l.take p).filter (fun s=>decide (key < s))=[]:=by
      rw [List.filter_eq_nil_iff]
      intro f hf
      obtain ⟨j,hj,rfl⟩:=List.mem_take_iff_getElem.1 hf
      have:=lo j (by omega)
      rw [gd _ (by omega)] at this
      rw [decide_eq_true_eq];omega
    rw [a1,a2,List.nil_append]
  rw [e1,e2,eH _ _ _ hp]
def Ce (l:List Int) (key:Int):List Int:=l.filter fun s=>decide (s≠key)
theorem yS {l:List Int} {key:Int} (hr:fB l) (h:key∈l):l.getD (aS l key) default=key:=by
  obtain ⟨k,hk,e⟩:=List.mem_iff_getElem.1 h
  have e2:l.getD k default=key:=by rw [List.getD_eq_getElem?_getD,List.getElem?_eq_getElem hk];exact e
  have:aS l key=k:=pk (by omega) (fun j hj=>by rw [←e2];exact ek hr hj hk) (fun _=>by rw [e2];omega)
  rw [this,e2]
theorem tC {l:List Int} {key:Int} (hr:fB l) (h:key∈l):Ce l key=l.eraseIdx (aS l key):=by
  have hpl:aS l key < l.length:=uU hr h
  have hpk:l.getD (aS l key) default=key:=yS hr h
  generalize aS l key=p at *
  have hne:∀ j,j < l.length→j≠p→l.getD j default≠key:=fun j hj hjp e=>by
    rcases Nat.lt_or_gt_of_ne hjp with h1 | h1
    · have:=ek hr h1 hpl;omega
    · have:=ek hr h1 hj;omega
  have hs:l=l.take p++l.getD p default::l.drop (p+1):=by
    rw [List.getD_eq_getElem?_getD,List.getElem?_eq_getElem hpl]
    simp
  have h1:(l.take p).filter (fun f=>decide (f≠key))=l.take p:=by
    rw [List.filter_eq_self]
    intro f hf
    obtain ⟨j,hj,rfl⟩:=List.mem_take_iff_getElem.1 hf
    have:=hne j (by omega) (by omega)
    rw [List.getD_eq_getElem?_getD,List.getElem?_eq_getElem (by omega)] at this
    simpa using this
  have h2:(l.drop (p+1)).filter (fun f=>decide (f≠key))=l.drop (p+1):=by
    rw [List.filter_eq_self]
    intro f hf
    obtain ⟨j,hj,rfl⟩:=List.mem_drop_iff_getElem.1 hf
    have:=hne (p+1+j) (by omega) (by omega)
    rw [List.getD_eq_getElem?_getD,List.getElem?_eq_getElem (by omega)] at this
    simpa using this
  rw [gj]
  unfold Ce
  conv=>lhs;rw [hs]
  rw [List.filter_append,List.filter_cons_of_neg (by simp only [hpk];simp),h1,h2]
def okN (n:ANode):Prop:=n.wf∧n.path.length≤1048576
def okT (t:ATree):Prop:=t.wf∧∀ n,n∈t.nodes→n.path.length≤1048576
theorem sV (z:Int):okI (IntKind.i64.wrap z):=by rw [IntKind.wrap_i64];unfold okI;omega
theorem Ck {ns:List ANode} {p:List UInt8} {m z:Int} (h:∀ n,n∈ns→okN n) (hz:okI z):∀ n,n∈oU ns p m z→okN n:=by
  unfold oU
  split
  · rename_i hm
    intro n hn
    rcases List.mem_or_eq_of_mem_set hn with a | rfl
    · exact h n a
    · by_cases hl:place (pathsN ns) (dirP p) < ns.length
      · obtain ⟨⟨a1,a2,b1,b2,b3,b4,b5,b6,b7⟩,c⟩:=h _ (cz ns default hl)
        exact ⟨⟨a1,a2,b1,b2,hz,b4,sV _,b6,sV _⟩,c⟩
      · rw [List.set_eq_of_length_le (by omega)] at hn
        exact h _ hn
  · exact h
theorem BL {ns:List ANode} {p:List UInt8} {z:Int} (h:∀ n,n∈ns→okN n) (hz:okI z):∀ n,n∈iz ns p z→okN n:=
  Ck (fun n hn=>h n (List.mem_of_mem_eraseIdx hn)) hz
theorem pb {t:ATree} {s z:Int} (h:∀ n,n∈t.nodes→okN n) (hz:okI z):∀ k n,n∈(bd t s z k).1→okN n
  | 0=>h
  | k+1=>by
    unfold bd
    split
    · exact BL (pb h hz k) hz
    · exact pb h hz k
theorem xN {α:Type} {l:List α} {i:Nat} {x y:α} (h:i≤l.length) (hy:y∈l.insertIdx i x):y=x∨y∈l:=(List.mem_insertIdx h).1 hy
theorem Cm {α:Type} (l:List α) (i:Nat) (x:α) (h:i≤l.length):(l.insertIdx i x).length=l.length+1:=by rw [List.length_insertIdx,if_pos h]
theorem JD {t:ATree} {x:ATxn} (h:okT t) (hx:x.wf) (hp:x.path.length≤1048576) (h0:cV t x=0):okT (dn t x).1:=by
  obtain ⟨g1,g2,g3,g4,g5,g6,g7,g8⟩:=dX h0
  obtain ⟨⟨w1,⟨w2,w3⟩,w4,w5⟩,hb⟩:=h
  obtain ⟨x1,x2,x3,x4,x5,x6,x7⟩:=hx
  have hN:∀ n,n∈t.nodes→okN n:=fun n hn=>⟨w3 n hn,hb n hn⟩
  have h400:t.nodes.length≤400:=(dg g1).2.1
  have hss:=ri g1
  have fin:∀ ns:List ANode,∀ ss:List Int,ns.length≤401→ss.length≤2147483648→(∀ n,n∈ns→okN n)→(∀ s,s∈ss→okI s)→okT ⟨x.zxid,ns,ss⟩:=fun ns ss a b c d=>
    ⟨⟨x1,⟨by show ns.length*88≤_;omega,fun n hn=>(c n hn).1⟩,by show ss.length*8≤_;omega,d⟩,fun n hn=>(c n hn).2⟩
  unfold dn
  split
  · exact fin _ _ (by omega) (by rw [Cm _ _ _ (show aS t.sessions x.session≤_ from List.findIdx_le_length)];omega) hN (fun s hs=>by
      rcases xN List.findIdx_le_length hs with rfl | a
      · exact x3
      · exact w5 _ a)
  split
  · exact fin _ _ (Nat.le_trans (ov (z:=x.zxid) g1 (eU g2).2.2.1 _ (Nat.le_refl _)).len (by omega)) (Nat.le_trans (List.length_eraseIdx_le _ _) (by omega)) (pb hN x1 _) (fun s hs=>w5 s (List.mem_of_mem_eraseIdx hs))
  split
  · rename_i o3
    have hpl:place (pathsN t.nodes) x.path≤t.nodes.length:=by have:=gk (pathsN t.nodes) x.path;rwa [bj] at this
    refine fin _ _ ?_ (by omega) ?_ w5
    · unfold qP;rw [sA,Cm _ _ _ hpl];have:=(g6 o3).2.2;omega
    · refine Ck (fun n hn=>?_) x1
      rcases xN hpl hn with rfl | a
      · exact ⟨⟨x4,x5,x1,x1,x1,⟨by show (_:Int)≤0;decide,by show (0:Int)≤_;decide⟩,⟨by show (_:Int)≤0;decide,by show (0:Int)≤_;decide⟩,x7,⟨by show (_:Int)≤0;decide,by show (0:Int)≤_;decide⟩⟩,hp⟩
      · exact hN n a
  split
  · refine fin _ _ ?_ (by omega) (BL hN x1) w5
    unfold iz;rw [sA];exact Nat.le_trans (List.length_eraseIdx_le _ _) (by omega)
  · obtain ⟨o1,o2,_,_⟩:=eU g2
    have hq:=(ap (aT g1) (g8 (by omega))).1
    rw [aQ] at hq
    refine fin _ _ (by unfold setN;rw [List.length_set];omega) (by omega) (fun n hn=>?_) w5
    rcases List.mem_or_eq_of_mem_set hn with a | rfl
    · exact hN n a
    · obtain ⟨⟨a1,a2,b1,b2,b3,b4,b5,b6,b7⟩,c⟩:=hN _ (cz t.nodes default (k:=place (pathsN t.nodes) x.path) hq)
      exact ⟨⟨a1,x5,b1,x1,b3,x6,b5,b6,b7⟩,c⟩
theorem DC {t:ATree} {x:ATxn} (h:okT t) (hx:x.wf) (hp:x.path.length≤1048576):okT (ar t x).1:=by
  have hd:okT (default:ATree):=⟨⟨by unfold okI;decide,⟨by decide,fun _ h=>by cases h⟩,by decide,fun _ h=>by cases h⟩,fun _ h=>by cases h⟩
  unfold ar
  split
  · exact hd
  · rename_i h0
    split
    · exact hd
    · exact JD h hx hp (Classical.not_not.1 h0)
theorem IJ {t:ATree} {x:ATxn}:(ar t x).2.1.length≤1000:=by
  unfold ar
  split
  · exact Nat.zero_le _
  · rename_i h0
    have h0:=Classical.not_not.1 h0
    obtain ⟨g1,g2,g3,g4,g5,g6,g7,g8⟩:=dX h0
    have h400:t.nodes.length≤400:=(dg g1).2.1
    split
    · exact Nat.zero_le _
    · show (dn t x).2.length≤_
      unfold dn
      split
      · exact Nat.zero_le _
      split
      · have:=(ov (z:=x.zxid) g1 (eU g2).2.2.1 _ (Nat.le_refl _)).elen
        simp only;omega
      split
      · show 2≤_;omega
      split
      · show 2≤_;omega
      · show 1≤_;omega
theorem qSs2:Pls [Plan.takes [1,2] (.forks 0 (.fork 3 (Plan.takes [4,5,6,7,8] .done) 5 (Plan.takes [3,4,6,7,8] .done)) 3 (Plan.takes [4] (.fork 0 (Plan.takes [5,6,7,8] .done) 5 (Plan.takes [0,6,7,8] .done))) 5 (Plan.takes [0,3,4,6,7,8] .done))]:=pls _
def bo (s:AServer) (x:ATxn) (safe:Bool):AServer×Int:=
  if x.zxid≤ay s.peer.log then (default,13) else if (cZ s.disk.files x safe).2=0 then (⟨s.up,(cZ s.disk.files x safe).1,⟨s.peer.id,s.peer.epoch,s.peer.log++[x],s.peer.done⟩,s.tree,s.watches⟩,0) else (default,(cZ s.disk.files x safe).2)
def bw (s:AServer) (keep:Int):AServer×Int:=
  if (fT s.disk.files keep).2=0 then (⟨false,(fT s.disk.files keep).1,⟨s.peer.id,0,[],0⟩,t00,[]⟩,0) else (default,(fT s.disk.files keep).2)
theorem lf (l:List ATxn) (x:ATxn):l.map ATxn.row++[[.int .i64 x.zxid,.int .i64 x.op,.int .i64 x.session,.str x.path,.str x.data,.int .i64 x.version,.int .i64 x.owner]]=(l++[x]).map ATxn.row:=by rw [List.map_append];rfl
theorem kU (l:List ATxn) (x:ATxn):List.take (l.length+1) ((l++[x]).map ATxn.row)=(l++[x]).map ATxn.row:=List.take_of_length_le (by simp)
set_option maxHeartbeats 8000000 in
theorem Ao (s:AServer) (x:ATxn) (safe:Bool) (hw:s.wf) (hx:x.wf) (hl:s.peer.log.length≤1048576):ab Tryz.prog [] 106 [s.av,x.av,B safe] (ret (.tup [(bo s x safe).1.av,I (bo s x safe).2])):=by
  obtain ⟨_,h1,h2,h3,h4⟩:=hw
  have hlast:=last_c s.peer.log h2.2.2.1.1
  have ha:=FP s.disk x safe h1.1 h1.2 hx.2.2.2.1 hx.2.2.2.2.1
  unfold bo
  generalize cZ s.disk.files x safe=q at ha ⊢
  obtain ⟨d2,e⟩:=q
  simp only at ha ⊢
  refine zJ Tryz.func106 Tryz.ntmps106 Tryz.results106 ?_;simp only [go_sem]
  (repeat' first
| (with_reducible refine AR.f ?_)
| refine an (by decide) ?_
| (with_reducible refine AWP.cond rfl ?_ ?_<;>intro hc<;>(try simp only [hcs,beq_iff_eq,ge_iff_le,gt_iff_lt] at hc))
| ((first | ((first | refine zP ((Plan.takes [0,2,3,4] (.fork 1 (Plan.takes [5,6] .done) 5 (Plan.takes [1,6] .done)))) (by decide +kernel) ?_ | refine zP ((Plan.takes [0,1,6,7] (.forks 2 (Plan.takes [3,4] (.forks 5 (.fork 8 (.fork 9 (Plan.takes [10,11,12,13,14,15] .done) 10 (.fork 9 (Plan.takes [11,12,13,14,15] .done) 11 (Plan.takes [9,12,13,14,15] .done))) 10 (.fork 8 (.fork 9 (Plan.takes [11,12,13,14,15] .done) 11 (Plan.takes [9,12,13,14,15] .done)) 11 (Plan.takes [8,9,12,13,14,15] .done))) 8 (.fork 5 (.fork 9 (Plan.takes [10,11,12,13,14,15] .done) 10 (.fork 9 (Plan.takes [11,12,13,14,15] .done) 11 (Plan.takes [9,12,13,14,15] .done))) 10 (.fork 5 (.fork 9 (Plan.takes [11,12,13,14,15] .done) 11 (Plan.takes [9,12,13,14,15] .done)) 11 (Plan.takes [5,9,12,13,14,15] .done))) 10 (.forks 5 (.fork 8 (.fork 9 (Plan.takes [11,12,13,14,15] .done) 11 (Plan.takes [9,12,13,14,15] .done)) 11 (Plan.takes [8,9,12,13,14,15] .done)) 8 (.fork 5 (.fork 9 (Plan.takes [11,12,13,14,15] .done) 11 (Plan.takes [9,12,13,14,15] .done)) 11 (Plan.takes [5,9,12,13,14,15] .done)) 11 (.fork 5 (Plan.takes [8,9,12,13,14,15] .done) 8 (Plan.takes [5,9,12,13,14,15] .done))))) 8 (.fork 2 (Plan.takes [3,4] (.fork 5 (.fork 9 (Plan.takes [10,11,12,13,14,15] .done) 10 (.fork 9 (Plan.takes [11,12,13,14,15] .done) 11 (Plan.takes [9,12,13,14,15] .done))) 10 (.fork 5 (.fork 9 (Plan.takes [11,12,13,14,15] .done) 11 (Plan.takes [9,12,13,14,15] .done)) 11 (Plan.takes [5,9,12,13,14,15] .done)))) 10 (.fork 2 (Plan.takes [3,4] (.fork 5 (.fork 9 (Plan.takes [11,12,13,14,15] .done) 11 (Plan.takes [9,12,13,14,15] .done)) 11 (Plan.takes [5,9,12,13,14,15] .done))) 11 (Plan.takes [2,3,4,5,9,12,13,14,15] .done))) 10 (.forks 2 (Plan.takes [3,4] (.forks 5 (.fork 8 (.fork 9 (Plan.takes [11,12,13,14,15] .done) 11 (Plan.takes [9,12,13,14,15] .done)) 11 (Plan.takes [8,9,12,13,14,15] .done)) 8 (.fork 5 (.fork 9 (Plan.takes [11,12,13,14,15] .done) 11 (Plan.takes [9,12,13,14,15] .done)) 11 (Plan.takes [5,9,12,13,14,15] .done)) 11 (.fork 5 (Plan.takes [8,9,12,13,14,15] .done) 8 (Plan.takes [5,9,12,13,14,15] .done)))) 8 (.fork 2 (Plan.takes [3,4] (.fork 5 (.fork 9 (Plan.takes [11,12,13,14,15] .done) 11 (Plan.takes [9,12,13,14,15] .done)) 11 (Plan.takes [5,9,12,13,14,15] .done))) 11 (Plan.takes [2,3,4,5,9,12,13,14,15] .done)) 11 (Plan.takes [2,3,4] (.fork 5 (Plan.takes [8,9,12,13,14,15] .done) 8 (Plan.takes [5,9,12,13,14,15] .done))))))) (by decide +kernel) ?_ | (with_reducible first | refine zR ?_ | refine zQ (by decide +kernel) ?_ | refine zD (by decide +kernel) ?_ | refine zE (by decide +kernel) ?_ | refine zG (by decide +kernel) ?_));intro K hK) | ((first | refine zA hlast ?_ ?_ ?_ ?_ ?_ | refine zA ha ?_ ?_ ?_ ?_ ?_);(focus exact rfl);(focus exact rfl);iterate 2 (focus ((try simp (disch:=omega) only [go_sem,aa,lf,kU])<;>(try omega)<;>fail))) | ((first | refine zN ha rfl ?_ ?_ | refine zX hlast rfl ?_ ?_ | refine zX ha rfl ?_ ?_ | refine zY ha ?_ ?_);(focus ((try simp (disch:=omega) only [go_sem,aa,lf,kU])<;>(try omega)<;>fail))) | ((first | (with_reducible refine aunder_i ?_ ?_<;>intro hg) | with_reducible intro hg)<;>(first | (exfalso;simp at hg;done) | (have hg':=hg;(try simp only [hcs,beq_iff_eq,ge_iff_le,gt_iff_lt] at hg');(try simp only [hg])))))<;>(try simp (disch:=omega) only [go_sem,aa,lf,kU])<;>(repeat' with_reducible refine And.intro ?_ ?_)<;>(try (with_reducible refine hK _ ?_;clear hK K)))
| omega)
  all_goals first
    | (rw [if_pos (by omega)];(refine zF rfl ?_ ?_ ?_ ?_;(iterate 3 (focus ((try simp (disch:=omega) only [go_sem,aa,default])<;>(try omega)<;>fail)));(try simp (disch:=omega) only [go_sem,aa,default,I,B,S,zj]));done)
    | (rw [if_neg (by omega),if_neg (by omega)];(refine zF rfl ?_ ?_ ?_ ?_;(iterate 3 (focus ((try simp (disch:=omega) only [go_sem,aa,default])<;>(try omega)<;>fail)));(try simp (disch:=omega) only [go_sem,aa,default,I,B,S,zj]));done)
    | (rw [if_neg (by omega),if_pos (by omega)];(refine zF rfl ?_ ?_ ?_ ?_;(iterate 3 (focus ((try simp (disch:=omega) only [go_sem,aa,I,S,lf,kU])<;>(try omega)<;>fail)));(try simp (disch:=omega) only [go_sem,aa,I,S,lf,kU,I,B,S,zj]));done)
set_option maxHeartbeats 8000000 in
theorem HM (s:AServer) (keep:Int) (hw:s.wf):ab Tryz.prog [] 118 [s.av,I keep] (ret (.tup [(bw s keep).1.av,I (bw s keep).2])):=by
  obtain ⟨_,h1,h2,h3,h4⟩:=hw
  have ha:=Jg s.disk keep h1.1 h1.2
  unfold bw
  generalize fT s.disk.files keep=q at ha ⊢
  obtain ⟨d2,e⟩:=q
  simp only at ha ⊢
  refine zJ Tryz.func118 Tryz.ntmps118 Tryz.results118 ?_;simp only [go_sem]
  (refine zW qw (z3 qSs2 ha F8) trivial (zc ?_ (zc ?_ (z4 ?_ ?_ ?_ ?_)))<;>(repeat with_reducible intro hc))
  all_goals first
    | (rw [if_neg (by omega)];(refine zF rfl ?_ ?_ ?_ ?_;(iterate 3 (focus ((try simp (disch:=omega) only [go_sem,aa,default])<;>(try omega)<;>fail)));(try simp (disch:=omega) only [go_sem,aa,default,I,B,S,zj]));done)
    | (rw [if_pos (by omega)];(refine zF rfl ?_ ?_ ?_ ?_;(iterate 3 (focus ((try simp (disch:=omega) only [go_sem,aa,I,S,t00])<;>(try omega)<;>fail)));(try simp (disch:=omega) only [go_sem,aa,I,S,t00,I,B,S,zj]));done)
def rh (t:ATree) (r:ARequest):Int:=
  if bF r.path=true then (if r.session∈t.sessions then (if (aP t r.path).2=0 then (if ¬ r.version=-1∧¬ r.version=(aP t r.path).1.stat.version then 9 else 0) else (aP t r.path).2) else 12) else 2
def pn (r:ARequest):List UInt8:=(af r.path).1.1
def qf (t:ATree) (r:ARequest):List UInt8×Int:=fm (af r.path).1.2 (aP t (pn r)).1.stat.cversion
def kF (t:ATree) (r:ARequest):Int:=
  if r.flags < 0∨3 < r.flags then 3 else if (af r.path).2=0 then (if r.session∈t.sessions then (if 2≤r.flags then (if (aP t (pn r)).2=0 then (if (qf t r).2=0 then (ez (pn r) (qf t r).1).2 else (qf t r).2) else (aP t (pn r)).2) else 0) else 12) else 2
def ql (t:ATree) (r:ARequest):List UInt8:=if 2≤r.flags then (ez (pn r) (qf t r).1).1 else r.path
def qi (r:ARequest):Int:=if r.flags=1∨r.flags=3 then r.session else 0
def eK (t:ATree) (z:Int) (r:ARequest):ATxn×Int:=
  if r.op=1∨r.op=2 then (⟨z,r.op,r.session,[],[],0,0⟩,0)
  else if r.op=3 then (⟨z,3,r.session,ql t r,r.data,0,qi r⟩,kF t r)
  else if r.op=4 then (⟨z,4,r.session,r.path,[],0,0⟩,rh t r)
  else if r.op=5 then (⟨z,5,r.session,r.path,r.data,IntKind.i64.wrap ((aP t r.path).1.stat.version+1),0⟩,rh t r)
  else (default,4)
def ju (t:ATree) (z:Int) (r:ARequest):Prop:=aJ t=true∧bV z∧1≤r.session∧r.session≤2147483647
instance (t:ATree) (z:Int) (r:ARequest):Decidable (ju t z r):=by unfold ju;infer_instance
def cF (t:ATree) (z:Int) (r:ARequest):ATxn×Int:=
  if ju t z r then (if (eK t z r).2=0 then (if (ar t (eK t z r).1).2.2=0 then ((eK t z r).1,0) else (default,(ar t (eK t z r).1).2.2)) else (default,(eK t z r).2)) else (default,3)
theorem Jl {t:ATree} {z:Int} {r:ARequest} (h:¬ ju t z r):cF t z r=(default,3):=by unfold cF;rw [if_neg h]
theorem fC {t:ATree} {z:Int} {r:ARequest} (h:ju t z r) {x:ATxn} {e:Int} (h2:eK t z r=(x,e)) (h3:¬ e=0):cF t z r=(default,e):=by unfold cF;rw [if_pos h,h2,if_neg h3]
theorem iF {t:ATree} {z:Int} {r:ARequest} (h:ju t z r) {x:ATxn} (h2:eK t z r=(x,0)):cF t z r=if (ar t x).2.2=0 then (x,0) else (default,(ar t x).2.2):=by unfold cF;rw [if_pos h,h2,if_pos rfl]
set_option maxHeartbeats 8000000 in
theorem vi (t:ATree) (r:ARequest) (hw:t.wf) (hg:aJ t=true) (hp:okS r.path):ab Tryz.prog [] 176 [t.av,r.av] (ret (.tup [I (if rh t r=0 then (aP t r.path).1.stat.version else 0),I (rh t r)])):=by
  have hr:=aT hg
  have hri:=jE hg
  refine zJ Tryz.func176 Tryz.ntmps176 Tryz.results176 ?_;simp only [go_sem]
  (refine zW qw (z3 (good_c r.path hp) (open_c t r.session hw.2.2.1 hri) (iT t r.path hw.2.1.1 hr)) trivial (zc ?_ (z4 ?_ ?_ ?_ ?_))<;>(repeat with_reducible intro hc))
  all_goals
    unfold rh
    (refine zF rfl ?_ ?_ ?_ ?_;(iterate 3 (focus ((try simp (disch:=omega) only [go_sem,aa])<;>(try omega)<;>fail)));(try simp (disch:=omega) only [go_sem,aa,I,B,S,zj]))
    try (repeat' split)
    all_goals first | rfl | omega | (exfalso;omega) | (exfalso;simp_all;done) | (simp_all;done)
theorem J6 (a b:List UInt8):(ez a b).1.length≤200:=by
  by_cases h:bF a=true∧bc b=true
  · by_cases h2:200 < (jA a b).length
    · rw [qY h.1 h.2 h2];exact Nat.zero_le _
    · rw [xx h.1 h.2 (by omega)];show (jA a b).length≤200;omega
  · rw [px h];exact Nat.zero_le _
theorem wY (s:List UInt8):(af s).1.1.length≤200∧(af s).1.2.length≤200:=by
  by_cases h:bF s=true
  case neg=>rw [ug h];exact ⟨by decide,by decide⟩
  rcases m7 h with rfl | ⟨ps,p,hn,rfl,hl,hj⟩
  · rw [mL];exact ⟨by decide,by decide⟩
  · rw [mZ hn hl]
    have hp:=yu (ps:=ps++[p]) ps.length hl
    rw [List.take_left'] at hp
    · refine ⟨hp,?_⟩
      rw [hj,List.length_append,List.length_cons] at hl
      show p.length≤200;omega
    · rfl
theorem JT (a:List UInt8) (n:Int):(fm a n).1.length≤a.length+10:=by
  unfold fm
  split
  · exact Nat.zero_le _
  · split
    · show (rT a n.toNat).length≤_
      unfold rT;rw [List.length_append,xd];omega
    · exact Nat.zero_le _
theorem Kf {t:ATree} (hw:t.wf) (p:List UInt8):(aP t p).1.wf:=by
  have hd:(default:ANode).wf:=by unfold ANode.wf AStat.wf okS okI;decide
  unfold aP
  split
  · show ANode.wf _
    by_cases h:place (aM t) p < t.nodes.length
    · exact hw.2.1.2 _ (cz _ _ h)
    · show (t.nodes.getD _ default).wf
      rw [List.getD_eq_getElem?_getD,List.getElem?_eq_none (by omega)];exact hd
  · exact hd
theorem gf {t:ATree} {z:Int} {r:ARequest} (h:okT t) (hr:r.wf) (hp:r.path.length≤1048576) (hz:okI z):(eK t z r).1.wf∧(eK t z r).1.path.length≤1048576:=by
  obtain ⟨r1,r2,r3,r4,r5,r6⟩:=hr
  have n0:okI 0:=⟨by decide,by decide⟩
  have s0:okS []:=Nat.zero_le _
  have n3:okI 3:=⟨by decide,by decide⟩
  have n4:okI 4:=⟨by decide,by decide⟩
  have n5:okI 5:=⟨by decide,by decide⟩
  unfold eK
  split
  · exact ⟨⟨hz,r1,r2,s0,s0,n0,n0⟩,Nat.zero_le _⟩
  split
  · have hc:(ql t r).length≤1048576:=by
      unfold ql;split
      · exact Nat.le_trans (J6 _ _) (by omega)
      · exact hp
    refine ⟨⟨hz,n3,r2,Nat.le_trans hc (by omega),r4,n0,?_⟩,hc⟩
    show okI (qi r)
    unfold qi;split
    · exact r2
    · exact n0
  split
  · exact ⟨⟨hz,n4,r2,r3,s0,n0,n0⟩,hp⟩
  split
  · exact ⟨⟨hz,n5,r2,r3,r4,sV _,n0⟩,hp⟩
  · exact ⟨⟨n0,n0,n0,s0,s0,n0,n0⟩,Nat.zero_le _⟩
theorem Mg {t:ATree} {z:Int} {r:ARequest} (o:r.op=4):eK t z r=(⟨z,4,r.session,r.path,[],0,0⟩,rh t r):=by unfold eK;rw [if_neg (by omega),if_neg (by omega),if_pos o]
theorem L3 {t:ATree} {z:Int} {r:ARequest} (o:r.op=5):eK t z r=(⟨z,5,r.session,r.path,r.data,IntKind.i64.wrap ((aP t r.path).1.stat.version+1),0⟩,rh t r):=by unfold eK;rw [if_neg (by omega),if_neg (by omega),if_neg (by omega),if_pos o]
theorem Cc {t:ATree} {z:Int} {r:ARequest} (o:r.op=1∨r.op=2):eK t z r=(⟨z,r.op,r.session,[],[],0,0⟩,0):=by unfold eK;rw [if_pos o]
theorem Lg {t:ATree} {z:Int} {r:ARequest} (o:¬ (1≤r.op∧r.op≤5)):eK t z r=(default,4):=by unfold eK;rw [if_neg (by omega),if_neg (by omega),if_neg (by omega),if_neg (by omega)]
set_option maxHeartbeats 8000000 in
theorem KP (t:ATree) (z:Int) (r:ARequest) (ht:okT t) (hr:r.wf) (hp:r.path.length≤1048576) (hz:okI z) (hq:¬ ju t z r):ab Tryz.prog [] 105 [t.av,I z,r.av] (ret (.tup [(cF t z r).1.av,I (cF t z r).2])):=by
  have hgc:=iI t ht.1
  have hzc:=zgood_c z
  rw [Jl hq]
  unfold ju at hq
  generalize aJ t=g at hq hgc
  refine zJ Tryz.func105 Tryz.ntmps105 Tryz.results105 ?_;simp only [go_sem]
  (repeat' first
| (with_reducible refine AR.f ?_)
| refine an (by decide) ?_
| (with_reducible refine AWP.cond rfl ?_ ?_<;>intro hc<;>(try simp only [hcs,beq_iff_eq,ge_iff_le,gt_iff_lt] at hc))
| ((first | ((first | (with_reducible first | refine zR ?_ | refine zQ (by decide +kernel) ?_ | refine zD (by decide +kernel) ?_ | refine zE (by decide +kernel) ?_ | refine zG (by decide +kernel) ?_));intro K hK) | ((first | refine zA hgc ?_ ?_ ?_ ?_ ?_ | refine zA hzc ?_ ?_ ?_ ?_ ?_);(focus exact rfl);(focus exact rfl);iterate 2 (focus ((try simp (disch:=omega) only [go_sem,aa])<;>(try omega)<;>fail))) | ((first | refine zX hgc rfl ?_ ?_ | refine zX hzc rfl ?_ ?_);(focus ((try simp (disch:=omega) only [go_sem,aa])<;>(try omega)<;>fail))) | ((first | (with_reducible refine aunder_i ?_ ?_<;>intro hg) | with_reducible intro hg)<;>(first | (exfalso;simp at hg;done) | (have hg':=hg;(try simp only [hcs,beq_iff_eq,ge_iff_le,gt_iff_lt] at hg');(try simp only [hg])))))<;>(try simp (disch:=omega) only [go_sem,aa])<;>(repeat' with_reducible refine And.intro ?_ ?_)<;>(try (with_reducible refine hK _ ?_;clear hK K)))
| omega)
  all_goals first
    | ((refine zF rfl ?_ ?_ ?_ ?_;(iterate 3 (focus ((try simp (disch:=omega) only [go_sem,aa,default])<;>(try omega)<;>fail)));(try simp (disch:=omega) only [go_sem,aa,default,I,B,S,zj]));done)
    | (exfalso;exact hq ⟨by assumption,by assumption,by omega,by omega⟩)
    | (exfalso;simp_all;done)
    | (exfalso;simp_all;omega)
set_option maxHeartbeats 8000000 in
theorem KD (t:ATree) (z:Int) (r:ARequest) (ht:okT t) (hr:r.wf) (hp:r.path.length≤1048576) (hz:okI z) (hq:ju t z r) (o:r.op=1∨r.op=2∨¬ (1≤r.op∧r.op≤5)):ab Tryz.prog [] 105 [t.av,I z,r.av] (ret (.tup [(cF t z r).1.av,I (cF t z r).2])):=by
  have hgc:=(iI t ht.1).re (congrArg B hq.1)
  have hzc:=(zgood_c z).re (congrArg B (decide_eq_true hq.2.1))
  obtain ⟨hs1,hs2⟩:=hq.2.2
  by_cases o1:r.op=1∨r.op=2
  · rcases o1 with o | o
    · have hx:=Cc (t:=t) (z:=z) (r:=r) (.inl o)
      rw [o] at hx
      have hxw:=gf (z:=z) ht hr hp hz
      rw [hx] at hxw
      simp only at hxw
      have ha:=fV t ⟨z,1,r.session,[],[],0,0⟩ ht.1 hxw.1.2.2.2.1 hxw.1.2.2.2.2.1
      rw [iF hq (hx)]
      generalize ar t ⟨z,1,r.session,[],[],0,0⟩=q at ha ⊢
      obtain ⟨a,es,e⟩:=q
      simp only at ha ⊢
      refine zJ Tryz.func105 Tryz.ntmps105 Tryz.results105 ?_;simp only [go_sem]
      (refine zW qw (z3 hgc hzc ha) @o (z2 ?_ ?_)<;>(repeat with_reducible intro hc))
      all_goals first
        | (exfalso;omega)
        | (rw [if_pos (by omega)];(refine zF rfl ?_ ?_ ?_ ?_;(iterate 3 (focus ((try simp (disch:=omega) only [go_sem,aa,I,S])<;>(try omega)<;>fail)));(try simp (disch:=omega) only [go_sem,aa,I,S,I,B,S,zj]));done)
        | (rw [if_neg (by omega)];(refine zF rfl ?_ ?_ ?_ ?_;(iterate 3 (focus ((try simp (disch:=omega) only [go_sem,aa,default])<;>(try omega)<;>fail)));(try simp (disch:=omega) only [go_sem,aa,default,I,B,S,zj]));done)
    · have hx:=Cc (t:=t) (z:=z) (r:=r) (.inr o)
      rw [o] at hx
      have hxw:=gf (z:=z) ht hr hp hz
      rw [hx] at hxw
      simp only at hxw
      have ha:=fV t ⟨z,2,r.session,[],[],0,0⟩ ht.1 hxw.1.2.2.2.1 hxw.1.2.2.2.2.1
      rw [iF hq (hx)]
      generalize ar t ⟨z,2,r.session,[],[],0,0⟩=q at ha ⊢
      obtain ⟨a,es,e⟩:=q
      simp only at ha ⊢
      refine zJ Tryz.func105 Tryz.ntmps105 Tryz.results105 ?_;simp only [go_sem]
      (refine zW qw (z3 hgc hzc ha) @o (z2 ?_ ?_)<;>(repeat with_reducible intro hc))
      all_goals first
        | (exfalso;omega)
        | (rw [if_pos (by omega)];(refine zF rfl ?_ ?_ ?_ ?_;(iterate 3 (focus ((try simp (disch:=omega) only [go_sem,aa,I,S])<;>(try omega)<;>fail)));(try simp (disch:=omega) only [go_sem,aa,I,S,I,B,S,zj]));done)
        | (rw [if_neg (by omega)];(refine zF rfl ?_ ?_ ?_ ?_;(iterate 3 (focus ((try simp (disch:=omega) only [go_sem,aa,default])<;>(try omega)<;>fail)));(try simp (disch:=omega) only [go_sem,aa,default,I,B,S,zj]));done)
  · have hx:=Lg (t:=t) (z:=z) (r:=r) (by omega)
    rw [fC hq hx (by decide)]
    refine zJ Tryz.func105 Tryz.ntmps105 Tryz.results105 ?_;simp only [go_sem]
    (refine zW qw (z2 hgc hzc) trivial (z1 ?_)<;>(repeat with_reducible intro hc))
    all_goals first | (exfalso;omega) | ((refine zF rfl ?_ ?_ ?_ ?_;(iterate 3 (focus ((try simp (disch:=omega) only [go_sem,aa,default])<;>(try omega)<;>fail)));(try simp (disch:=omega) only [go_sem,aa,default,I,B,S,zj]));done)
set_option maxHeartbeats 8000000 in
theorem J4 (t:ATree) (z:Int) (r:ARequest) (ht:okT t) (hr:r.wf) (hp:r.path.length≤1048576) (hz:okI z) (hq:ju t z r) (o:r.op=4):ab Tryz.prog [] 105 [t.av,I z,r.av] (ret (.tup [(cF t z r).1.av,I (cF t z r).2])):=by
  have hgc:=(iI t ht.1).re (congrArg B hq.1)
  have hzc:=(zgood_c z).re (congrArg B (decide_eq_true hq.2.1))
  obtain ⟨hs1,hs2⟩:=hq.2.2
  have hx:=Mg (t:=t) (z:=z) (r:=r) o
  have hvc:=vi t r ht.1 hq.1 hr.2.2.1
  by_cases hv:rh t r=0
  case neg=>
    rw [fC hq hx hv]
    rw [if_neg hv] at hvc
    generalize rh t r=e at hv hvc ⊢
    refine zJ Tryz.func105 Tryz.ntmps105 Tryz.results105 ?_;simp only [go_sem]
    (refine zW qw (z3 hgc hzc hvc) @o (z1 ?_)<;>(repeat with_reducible intro hc))
    all_goals first | (exfalso;omega) | ((refine zF rfl ?_ ?_ ?_ ?_;(iterate 3 (focus ((try simp (disch:=omega) only [go_sem,aa,default])<;>(try omega)<;>fail)));(try simp (disch:=omega) only [go_sem,aa,default,I,B,S,zj]));done)
  rw [if_pos hv,hv] at hvc
  rw [hv] at hx
  have hxw:=gf (z:=z) ht hr hp hz
  rw [hx] at hxw
  simp only at hxw
  have ha:=fV t ⟨z,4,r.session,r.path,[],0,0⟩ ht.1 hxw.1.2.2.2.1 hxw.1.2.2.2.2.1
  rw [iF hq (hx)]
  generalize ar t ⟨z,4,r.session,r.path,[],0,0⟩=q at ha ⊢
  obtain ⟨a,es,e⟩:=q
  simp only at ha ⊢
  refine zJ Tryz.func105 Tryz.ntmps105 Tryz.results105 ?_;simp only [go_sem]
  (refine zW qw (z4 hgc hzc hvc ha) @o (z2 ?_ ?_)<;>(repeat with_reducible intro hc))
  all_goals first
    | (exfalso;omega)
    | (rw [if_pos (by omega)];(refine zF rfl ?_ ?_ ?_ ?_;(iterate 3 (focus ((try simp (disch:=omega) only [go_sem,aa,I,S])<;>(try omega)<;>fail)));(try simp (disch:=omega) only [go_sem,aa,I,S,I,B,S,zj]));done)
    | (rw [if_neg (by omega)];(refine zF rfl ?_ ?_ ?_ ?_;(iterate 3 (focus ((try simp (disch:=omega) only [go_sem,aa,default])<;>(try omega)<;>fail)));(try simp (disch:=omega) only [go_sem,aa,default,I,B,S,zj]));done)
set_option maxHeartbeats 8000000 in
theorem Kc (t:ATree) (z:Int) (r:ARequest) (ht:okT t) (hr:r.wf) (hp:r.path.length≤1048576) (hz:okI z) (hq:ju t z r) (o:r.op=5):ab Tryz.prog [] 105 [t.av,I z,r.av] (ret (.tup [(cF t z r).1.av,I (cF t z r).2])):=by
  have hgc:=(iI t ht.1).re (congrArg B hq.1)
  have hzc:=(zgood_c z).re (congrArg B (decide_eq_true hq.2.1))
  obtain ⟨hs1,hs2⟩:=hq.2.2
  have hx:=L3 (t:=t) (z:=z) (r:=r) o
  have hvc:=vi t r ht.1 hq.1 hr.2.2.1
  by_cases hv:rh t r=0
  case neg=>
    rw [fC hq hx hv]
    rw [if_neg hv] at hvc
    generalize rh t r=e at hv hvc ⊢
    refine zJ Tryz.func105 Tryz.ntmps105 Tryz.results105 ?_;simp only [go_sem]
    (repeat' first
  | (with_reducible refine AR.f ?_)
  | refine an (by decide) ?_
  | (with_reducible refine AWP.cond rfl ?_ ?_<;>intro hc<;>(try simp only [hcs,beq_iff_eq,ge_iff_le,gt_iff_lt] at hc))
  | ((first | ((first | refine zP ((Plan.takes [0,1,2,4] (.fork 3 (Plan.takes [5,6,7] .done) 5 (Plan.takes [3,6,7] .done)))) (by decide +kernel) ?_ | (with_reducible first | refine zR ?_ | refine zQ (by decide +kernel) ?_ | refine zD (by decide +kernel) ?_ | refine zE (by decide +kernel) ?_ | refine zG (by decide +kernel) ?_));intro K hK) | ((first | refine zA hgc ?_ ?_ ?_ ?_ ?_ | refine zA hzc ?_ ?_ ?_ ?_ ?_ | refine zA hvc ?_ ?_ ?_ ?_ ?_);(focus exact rfl);(focus exact rfl);iterate 2 (focus ((try simp (disch:=omega) only [go_sem,aa,o])<;>(try omega)<;>fail))) | ((first | refine zX hgc rfl ?_ ?_ | refine zX hzc rfl ?_ ?_ | refine zX hvc rfl ?_ ?_);(focus ((try simp (disch:=omega) only [go_sem,aa,o])<;>(try omega)<;>fail))) | ((first | (with_reducible refine aunder_i ?_ ?_<;>intro hg) | with_reducible intro hg)<;>(first | (exfalso;simp at hg;done) | (have hg':=hg;(try simp only [hcs,beq_iff_eq,ge_iff_le,gt_iff_lt] at hg');(try simp only [hg])))))<;>(try simp (disch:=omega) only [go_sem,aa,o])<;>(repeat' with_reducible refine And.intro ?_ ?_)<;>(try (with_reducible refine hK _ ?_;clear hK K)))
  | omega)
    all_goals first | (exfalso;omega) | ((refine zF rfl ?_ ?_ ?_ ?_;(iterate 3 (focus ((try simp (disch:=omega) only [go_sem,aa,default])<;>(try omega)<;>fail)));(try simp (disch:=omega) only [go_sem,aa,default,I,B,S,zj]));done)
  rw [if_pos hv,hv] at hvc
  rw [hv] at hx
  have hxw:=gf (z:=z) ht hr hp hz
  rw [hx] at hxw
  simp only at hxw
  have ha:=fV t ⟨z,5,r.session,r.path,r.data,IntKind.i64.wrap ((aP t r.path).1.stat.version+1),0⟩ ht.1 hxw.1.2.2.2.1 hxw.1.2.2.2.2.1
  rw [iF hq (hx)]
  generalize ar t ⟨z,5,r.session,r.path,r.data,IntKind.i64.wrap ((aP t r.path).1.stat.version+1),0⟩=q at ha ⊢
  obtain ⟨a,es,e⟩:=q
  simp only at ha ⊢
  refine zJ Tryz.func105 Tryz.ntmps105 Tryz.results105 ?_;simp only [go_sem]
  (repeat' first
| (with_reducible refine AR.f ?_)
| refine an (by decide) ?_
| (with_reducible refine AWP.cond rfl ?_ ?_<;>intro hc<;>(try simp only [hcs,beq_iff_eq,ge_iff_le,gt_iff_lt] at hc))
| ((first | ((first | refine zP ((Plan.takes [0,1,2,4] (.fork 3 (Plan.takes [5,6,7] .done) 5 (Plan.takes [3,6,7] .done)))) (by decide +kernel) ?_ | (with_reducible first | refine zR ?_ | refine zQ (by decide +kernel) ?_ | refine zD (by decide +kernel) ?_ | refine zE (by decide +kernel) ?_ | refine zG (by decide +kernel) ?_));intro K hK) | ((first | refine zA hgc ?_ ?_ ?_ ?_ ?_ | refine zA hzc ?_ ?_ ?_ ?_ ?_ | refine zA hvc ?_ ?_ ?_ ?_ ?_);(focus exact rfl);(focus exact rfl);iterate 2 (focus ((try simp (disch:=omega) only [go_sem,aa,o])<;>(try omega)<;>fail))) | ((first | refine zN ha rfl ?_ ?_ | refine zX hgc rfl ?_ ?_ | refine zX hzc rfl ?_ ?_ | refine zX hvc rfl ?_ ?_ | refine zY ha ?_ ?_);(focus ((try simp (disch:=omega) only [go_sem,aa,o])<;>(try omega)<;>fail))) | ((first | (with_reducible refine aunder_i ?_ ?_<;>intro hg) | with_reducible intro hg)<;>(first | (exfalso;simp at hg;done) | (have hg':=hg;(try simp only [hcs,beq_iff_eq,ge_iff_le,gt_iff_lt] at hg');(try simp only [hg])))))<;>(try simp (disch:=omega) only [go_sem,aa,o])<;>(repeat' with_reducible refine And.intro ?_ ?_)<;>(try (with_reducible refine hK _ ?_;clear hK K)))
| omega)
  all_goals first
    | (exfalso;omega)
    | (rw [if_pos (by omega)];(refine zF rfl ?_ ?_ ?_ ?_;(iterate 3 (focus ((try simp (disch:=omega) only [go_sem,aa,I,S])<;>(try omega)<;>fail)));(try simp (disch:=omega) only [go_sem,aa,I,S,I,B,S,zj]));done)
    | (rw [if_neg (by omega)];(refine zF rfl ?_ ?_ ?_ ?_;(iterate 3 (focus ((try simp (disch:=omega) only [go_sem,aa,default])<;>(try omega)<;>fail)));(try simp (disch:=omega) only [go_sem,aa,default,I,B,S,zj]));done)
theorem Mr:Pls [Plan.takes [0,1,2,3,4,6,7] (.fork 5 (Plan.takes [8,9,10,11] .done) 8 (Plan.takes [5,9,10,11] .done))]:=pls _
attribute [go_sem] Tryz.ntmps175 Tryz.results175
theorem LE {t:ATree} {z:Int} {r:ARequest} (o:r.op=3):eK t z r=(⟨z,3,r.session,ql t r,r.data,0,qi r⟩,kF t r):=by unfold eK;rw [if_neg (by omega),if_pos o]
inductive CreC (t:ATree) (r:ARequest):Prop where
  | flags (h:r.flags < 0∨3 < r.flags) (e:kF t r=3)
  | form (h:0≤r.flags∧r.flags≤3) (h2:¬ (af r.path).2=0) (e:kF t r=2)
  | shut (h:0≤r.flags∧r.flags≤3) (h2:(af r.path).2=0) (h3:¬ r.session∈t.sessions) (e:kF t r=12)
  | plain (h:r.flags=0∨r.flags=1) (h2:(af r.path).2=0) (h3:r.session∈t.sessions) (e:kF t r=0)
  | lack (h:r.flags=2∨r.flags=3) (h2:(af r.path).2=0) (h3:r.session∈t.sessions) (h4:¬ (aP t (af r.path).1.1).2=0) (e:kF t r=(aP t (af r.path).1.1).2)
  | ser (h:r.flags=2∨r.flags=3) (h2:(af r.path).2=0) (h3:r.session∈t.sessions) (h4:(aP t (af r.path).1.1).2=0) (h5:¬ (fm (af r.path).1.2 (aP t (af r.path).1.1).1.stat.cversion).2=0) (e:kF t r=(fm (af r.path).1.2 (aP t (af r.path).1.1).1.stat.cversion).2)
  | join (h:r.flags=2∨r.flags=3) (h2:(af r.path).2=0) (h3:r.session∈t.sessions) (h4:(aP t (af r.path).1.1).2=0) (h5:(fm (af r.path).1.2 (aP t (af r.path).1.1).1.stat.cversion).2=0) (h6:¬ (ez (af r.path).1.1 (fm (af r.path).1.2 (aP t (af r.path).1.1).1.stat.cversion).1).2=0) (e:kF t r=(ez (af r.path).1.1 (fm (af r.path).1.2 (aP t (af r.path).1.1).1.stat.cversion).1).2)
  | done (h:r.flags=2∨r.flags=3) (h2:(af r.path).2=0) (h3:r.session∈t.sessions) (h4:(aP t (af r.path).1.1).2=0) (h5:(fm (af r.path).1.2 (aP t (af r.path).1.1).1.stat.cversion).2=0) (h6:(ez (af r.path).1.1 (fm (af r.path).1.2 (aP t (af r.path).1.1).1.stat.cversion).1).2=0) (e:kF t r=0)
theorem yU (t:ATree) (r:ARequest):CreC t r:=by
  by_cases a:r.flags < 0∨3 < r.flags
  · exact .flags a (by unfold kF qf pn;rw [if_pos a])
  by_cases b:(af r.path).2=0
  case neg=>exact .form (by omega) b (by unfold kF qf pn;rw [if_neg a,if_neg b])
  by_cases c:r.session∈t.sessions
  case neg=>exact .shut (by omega) b c (by unfold kF qf pn;rw [if_neg a,if_pos b,if_neg c])
  by_cases d:2≤r.flags
  case neg=>exact .plain (by omega) b c (by unfold kF qf pn;rw [if_neg a,if_pos b,if_pos c,if_neg d])
  by_cases e:(aP t (af r.path).1.1).2=0
  case neg=>exact .lack (by omega) b c e (by unfold kF qf pn;rw [if_neg a,if_pos b,if_pos c,if_pos d,if_neg e])
  by_cases f:(fm (af r.path).1.2 (aP t (af r.path).1.1).1.stat.cversion).2=0
  case neg=>exact .ser (by omega) b c e f (by unfold kF qf pn;rw [if_neg a,if_pos b,if_pos c,if_pos d,if_pos e,if_neg f])
  by_cases g:(ez (af r.path).1.1 (fm (af r.path).1.2 (aP t (af r.path).1.1).1.stat.cversion).1).2=0
  · exact .done (by omega) b c e f g (by unfold kF qf pn;rw [if_neg a,if_pos b,if_pos c,if_pos d,if_pos e,if_pos f,g])
  · exact .join (by omega) b c e f g (by unfold kF qf pn;rw [if_neg a,if_pos b,if_pos c,if_pos d,if_pos e,if_pos f])
set_option maxHeartbeats 8000000 in
theorem Kn (t:ATree) (z:Int) (r:ARequest) (ht:okT t) (hr:r.wf) (hp:r.path.length≤1048576) (hz:okI z) (hq:ju t z r) (o:r.op=3):ab Tryz.prog [] 105 [t.av,I z,r.av] (ret (.tup [(cF t z r).1.av,I (cF t z r).2])):=by
  have hgc:=(iI t ht.1).re (congrArg B hq.1)
  have hzc:=(zgood_c z).re (congrArg B (decide_eq_true hq.2.1))
  obtain ⟨hs1,hs2⟩:=hq.2.2
  have hri:=aT hq.1
  have hrs:=jE hq.1
  obtain ⟨sl1,sl2⟩:=wY r.path
  have hcv:=(Kf ht.1 (af r.path).1.1).2.2.2.2.2.2.1
  have hsr:=JT (af r.path).1.2 (aP t (af r.path).1.1).1.stat.cversion
  have hx:=LE (t:=t) (z:=z) (r:=r) o
  have hcc:=yU t r
  have m0:Int.tmod 0 2=0:=by decide
  have m1:Int.tmod 1 2=1:=by decide
  have m2:Int.tmod 2 2=0:=by decide
  have m3:Int.tmod 3 2=1:=by decide
  have b1:bits .and .i64 0 2=0:=by decide +kernel
  have b2:bits .and .i64 1 2=0:=by decide +kernel
  have b3:bits .and .i64 2 2=2:=by decide +kernel
  have b4:bits .and .i64 3 2=2:=by decide +kernel
  have b5:bits .and .i64 0 1=0:=by decide +kernel
  have b6:bits .and .i64 1 1=1:=by decide +kernel
  have b7:bits .and .i64 2 1=0:=by decide +kernel
  have b8:bits .and .i64 3 1=1:=by decide +kernel
  rcases hcc with ⟨h,e⟩ | ⟨h,h2,e⟩ | ⟨h,h2,h3,e⟩ | ⟨h,h2,h3,e⟩ | ⟨h,h2,h3,h4,e⟩ | ⟨h,h2,h3,h4,h5,e⟩ | ⟨h,h2,h3,h4,h5,h6,e⟩ | ⟨h,h2,h3,h4,h5,h6,e⟩
  · skip
    rw [fC hq hx (by omega),e]
    refine zJ Tryz.func105 Tryz.ntmps105 Tryz.results105 ?_;simp only [go_sem]
    (refine zW qw (z4 Mr (ic Tryz.func175) hgc hzc) @o (z1 ?_)<;>(repeat with_reducible intro hc))
    all_goals first | (exfalso;omega) | ((refine zF rfl ?_ ?_ ?_ ?_;(iterate 3 (focus ((try simp (disch:=omega) only [go_sem,aa,default])<;>(try omega)<;>fail)));(try simp (disch:=omega) only [go_sem,aa,default,I,B,S,zj]));done)
  · skip
    rw [fC hq hx (by omega),e]
    have hsp:=split_c r.path hr.2.2.1
    refine zJ Tryz.func105 Tryz.ntmps105 Tryz.results105 ?_;simp only [go_sem]
    (refine zW qw (zc Mr (z4 (ic Tryz.func175) hgc hzc hsp)) @o (z1 ?_)<;>(repeat with_reducible intro hc))
    all_goals first | (exfalso;omega) | ((refine zF rfl ?_ ?_ ?_ ?_;(iterate 3 (focus ((try simp (disch:=omega) only [go_sem,aa,default])<;>(try omega)<;>fail)));(try simp (disch:=omega) only [go_sem,aa,default,I,B,S,zj]));done)
  · skip
    rw [fC hq hx (by omega),e]
    have hsp:=split_c r.path hr.2.2.1
    rw [h2] at hsp
    have hop:=(open_c t r.session ht.1.2.2.1 hrs).re (congrArg B (decide_eq_false h3))
    refine zJ Tryz.func105 Tryz.ntmps105 Tryz.results105 ?_;simp only [go_sem]
    (refine zW qw (zc Mr (zc (ic Tryz.func175) (z4 hgc hzc hsp hop))) @o (z1 ?_)<;>(repeat with_reducible intro hc))
    all_goals first | (exfalso;omega) | ((refine zF rfl ?_ ?_ ?_ ?_;(iterate 3 (focus ((try simp (disch:=omega) only [go_sem,aa,default])<;>(try omega)<;>fail)));(try simp (disch:=omega) only [go_sem,aa,default,I,B,S,zj]));done)
  · rw [e] at hx
    have hsp:=split_c r.path hr.2.2.1
    rw [h2] at hsp
    have hop:=(open_c t r.session ht.1.2.2.1 hrs).re (congrArg B (decide_eq_true h3))
    rcases h with h | h
    · skip
      have hcp:ql t r=r.path:=by unfold ql;rw [if_neg (by omega)]
      have hco:qi r=0:=by unfold qi;rw [if_neg (by omega)]
      rw [hcp,hco] at hx
      have hxw:=gf (z:=z) ht hr hp hz
      rw [hx] at hxw
      simp only at hxw
      have ha:=fV t ⟨z,3,r.session,r.path,r.data,0,0⟩ ht.1 hxw.1.2.2.2.1 hxw.1.2.2.2.2.1
      rw [iF hq hx]
      generalize ar t ⟨z,3,r.session,r.path,r.data,0,0⟩=q at ha ⊢
      obtain ⟨a,es,e⟩:=q
      simp only at ha ⊢
      refine zJ Tryz.func105 Tryz.ntmps105 Tryz.results105 ?_;simp only [go_sem]
      (refine zW qw (zc Mr (zc (ic Tryz.func175) (zc hgc (z4 hzc hsp hop ha)))) (zx @o (zx @h (zx @b1 (zx @b2 (zx @b3 (zx @b4 (zx @b5 (zx @b6 (zx @b7 @b8))))))))) (z2 ?_ ?_)<;>(repeat with_reducible intro hc))
      all_goals first
        | (exfalso;omega)
        | (rw [if_pos (by omega)];(refine zF rfl ?_ ?_ ?_ ?_;(iterate 3 (focus ((try simp (disch:=omega) only [go_sem,aa,I,S])<;>(try omega)<;>fail)));(try simp (disch:=omega) only [go_sem,aa,I,S,I,B,S,zj]));done)
        | (rw [if_neg (by omega)];(refine zF rfl ?_ ?_ ?_ ?_;(iterate 3 (focus ((try simp (disch:=omega) only [go_sem,aa,default])<;>(try omega)<;>fail)));(try simp (disch:=omega) only [go_sem,aa,default,I,B,S,zj]));done)
    · skip
      have hcp:ql t r=r.path:=by unfold ql;rw [if_neg (by omega)]
      have hco:qi r=r.session:=by unfold qi;rw [if_pos (by omega)]
      rw [hcp,hco] at hx
      have hxw:=gf (z:=z) ht hr hp hz
      rw [hx] at hxw
      simp only at hxw
      have ha:=fV t ⟨z,3,r.session,r.path,r.data,0,r.session⟩ ht.1 hxw.1.2.2.2.1 hxw.1.2.2.2.2.1
      rw [iF hq hx]
      generalize ar t ⟨z,3,r.session,r.path,r.data,0,r.session⟩=q at ha ⊢
      obtain ⟨a,es,e⟩:=q
      simp only at ha ⊢
      refine zJ Tryz.func105 Tryz.ntmps105 Tryz.results105 ?_;simp only [go_sem]
      (refine zW qw (zc Mr (zc (ic Tryz.func175) (zc hgc (z4 hzc hsp hop ha)))) (zx @o (zx @h (zx @b1 (zx @b2 (zx @b3 (zx @b4 (zx @b5 (zx @b6 (zx @b7 @b8))))))))) (z2 ?_ ?_)<;>(repeat with_reducible intro hc))
      all_goals first
        | (exfalso;omega)
        | (rw [if_pos (by omega)];(refine zF rfl ?_ ?_ ?_ ?_;(iterate 3 (focus ((try simp (disch:=omega) only [go_sem,aa,I,S])<;>(try omega)<;>fail)));(try simp (disch:=omega) only [go_sem,aa,I,S,I,B,S,zj]));done)
        | (rw [if_neg (by omega)];(refine zF rfl ?_ ?_ ?_ ?_;(iterate 3 (focus ((try simp (disch:=omega) only [go_sem,aa,default])<;>(try omega)<;>fail)));(try simp (disch:=omega) only [go_sem,aa,default,I,B,S,zj]));done)
  · skip
    rw [fC hq hx (by omega),e]
    have hsp:=split_c r.path hr.2.2.1
    rw [h2] at hsp
    have hop:=(open_c t r.session ht.1.2.2.1 hrs).re (congrArg B (decide_eq_true h3))
    have hgn:=iT t (af r.path).1.1 ht.1.2.1.1 hri
    generalize (aP t (af r.path).1.1).2=e1 at h4 hgn ⊢
    rcases h with h | h
    all_goals
      refine zJ Tryz.func105 Tryz.ntmps105 Tryz.results105 ?_;simp only [go_sem]
      (repeat' first
    | (with_reducible refine AR.f ?_)
    | refine an (by decide) ?_
    | (with_reducible refine AWP.cond rfl ?_ ?_<;>intro hc<;>(try simp only [hcs,beq_iff_eq,ge_iff_le,gt_iff_lt] at hc))
    | (refine aU fun Kk hKk=>(bG bp Tryz.func175 rfl (by kernel_rfl) (by simp [Tryz.ntmps175]) ?_);simp only [Tryz.ntmps175,Tryz.results175,List.toList_toArray,fk,List.length_nil,List.length_cons,Nat.reduceAdd,List.length_append,List.length_set,go_sem])
    | ((first | ((first | refine zP ((Plan.takes [0,1,2,3,4,6,7] (.fork 5 (Plan.takes [8,9,10,11] .done) 8 (Plan.takes [5,9,10,11] .done)))) (by decide +kernel) ?_ | (with_reducible first | refine zR ?_ | refine zQ (by decide +kernel) ?_ | refine zD (by decide +kernel) ?_ | refine zE (by decide +kernel) ?_ | refine zG (by decide +kernel) ?_));intro K hK) | ((first | refine zA hgc ?_ ?_ ?_ ?_ ?_ | refine zA hzc ?_ ?_ ?_ ?_ ?_ | refine zA hsp ?_ ?_ ?_ ?_ ?_ | refine zA hop ?_ ?_ ?_ ?_ ?_ | refine zA hgn ?_ ?_ ?_ ?_ ?_);(focus exact rfl);(focus exact rfl);iterate 2 (focus ((try simp (disch:=omega) only [go_sem,aa,o,h,b1,b2,b3,b4,b5,b6,b7,b8])<;>(try omega)<;>fail))) | ((first | refine zN hgn rfl ?_ ?_ | refine zX hgc rfl ?_ ?_ | refine zX hzc rfl ?_ ?_ | refine zX hsp rfl ?_ ?_ | refine zX hop rfl ?_ ?_ | refine zX hgn rfl ?_ ?_ | refine zY hgn ?_ ?_);(focus ((try simp (disch:=omega) only [go_sem,aa,o,h,b1,b2,b3,b4,b5,b6,b7,b8])<;>(try omega)<;>fail))) | (refine aend_in (v:=?_) hKk (by first | exact .inl rfl | exact .inr rfl) ?_ ?_ ?_;rotate_left;(focus ((try simp (disch:=omega) only [go_sem,aa,o,h,b1,b2,b3,b4,b5,b6,b7,b8])<;>(try omega)<;>fail));(focus ((try simp (disch:=omega) only [go_sem,aa,o,h,b1,b2,b3,b4,b5,b6,b7,b8])<;>(first | done | exact rfl)));clear hKk Kk) | ((first | (with_reducible refine aunder_i ?_ ?_<;>intro hg) | with_reducible intro hg)<;>(first | (exfalso;simp at hg;done) | (have hg':=hg;(try simp only [hcs,beq_iff_eq,ge_iff_le,gt_iff_lt] at hg');(try simp only [hg])))))<;>(try simp (disch:=omega) only [go_sem,aa,o,h,b1,b2,b3,b4,b5,b6,b7,b8])<;>(repeat' with_reducible refine And.intro ?_ ?_)<;>(try (with_reducible refine hK _ ?_;clear hK K)))
    | omega)
      all_goals first | (exfalso;omega) | ((refine zF rfl ?_ ?_ ?_ ?_;(iterate 3 (focus ((try simp (disch:=omega) only [go_sem,aa,default])<;>(try omega)<;>fail)));(try simp (disch:=omega) only [go_sem,aa,default,I,B,S,zj]));done)
  · skip
    rw [fC hq hx (by omega),e]
    have hsp:=split_c r.path hr.2.2.1
    rw [h2] at hsp
    have hop:=(open_c t r.session ht.1.2.2.1 hrs).re (congrArg B (decide_eq_true h3))
    have hgn:=iT t (af r.path).1.1 ht.1.2.1.1 hri
    rw [h4] at hgn
    have hse:=sT (af r.path).1.2 (aP t (af r.path).1.1).1.stat.cversion (by omega) hcv
    generalize (fm (af r.path).1.2 (aP t (af r.path).1.1).1.stat.cversion).2=e1 at h5 hse ⊢
    rcases h with h | h
    all_goals
      refine zJ Tryz.func105 Tryz.ntmps105 Tryz.results105 ?_;simp only [go_sem]
      (repeat' first
    | (with_reducible refine AR.f ?_)
    | refine an (by decide) ?_
    | (with_reducible refine AWP.cond rfl ?_ ?_<;>intro hc<;>(try simp only [hcs,beq_iff_eq,ge_iff_le,gt_iff_lt] at hc))
    | (refine aU fun Kk hKk=>(bG bp Tryz.func175 rfl (by kernel_rfl) (by simp [Tryz.ntmps175]) ?_);simp only [Tryz.ntmps175,Tryz.results175,List.toList_toArray,fk,List.length_nil,List.length_cons,Nat.reduceAdd,List.length_append,List.length_set,go_sem])
    | ((first | ((first | refine zP ((Plan.takes [0,1,2,3,4,6,7] (.fork 5 (Plan.takes [8,9,10,11] .done) 8 (Plan.takes [5,9,10,11] .done)))) (by decide +kernel) ?_ | (with_reducible first | refine zR ?_ | refine zQ (by decide +kernel) ?_ | refine zD (by decide +kernel) ?_ | refine zE (by decide +kernel) ?_ | refine zG (by decide +kernel) ?_));intro K hK) | ((first | refine zA hgc ?_ ?_ ?_ ?_ ?_ | refine zA hzc ?_ ?_ ?_ ?_ ?_ | refine zA hsp ?_ ?_ ?_ ?_ ?_ | refine zA hop ?_ ?_ ?_ ?_ ?_ | refine zA hgn ?_ ?_ ?_ ?_ ?_ | refine zA hse ?_ ?_ ?_ ?_ ?_);(focus exact rfl);(focus exact rfl);iterate 2 (focus ((try simp (disch:=omega) only [go_sem,aa,o,h,b1,b2,b3,b4,b5,b6,b7,b8])<;>(try omega)<;>fail))) | ((first | refine zN hgn rfl ?_ ?_ | refine zX hgc rfl ?_ ?_ | refine zX hzc rfl ?_ ?_ | refine zX hsp rfl ?_ ?_ | refine zX hop rfl ?_ ?_ | refine zX hgn rfl ?_ ?_ | refine zY hgn ?_ ?_ | refine zX hse rfl ?_ ?_);(focus ((try simp (disch:=omega) only [go_sem,aa,o,h,b1,b2,b3,b4,b5,b6,b7,b8])<;>(try omega)<;>fail))) | (refine aend_in (v:=?_) hKk (by first | exact .inl rfl | exact .inr rfl) ?_ ?_ ?_;rotate_left;(focus ((try simp (disch:=omega) only [go_sem,aa,o,h,b1,b2,b3,b4,b5,b6,b7,b8])<;>(try omega)<;>fail));(focus ((try simp (disch:=omega) only [go_sem,aa,o,h,b1,b2,b3,b4,b5,b6,b7,b8])<;>(first | done | exact rfl)));clear hKk Kk) | ((first | (with_reducible refine aunder_i ?_ ?_<;>intro hg) | with_reducible intro hg)<;>(first | (exfalso;simp at hg;done) | (have hg':=hg;(try simp only [hcs,beq_iff_eq,ge_iff_le,gt_iff_lt] at hg');(try simp only [hg])))))<;>(try simp (disch:=omega) only [go_sem,aa,o,h,b1,b2,b3,b4,b5,b6,b7,b8])<;>(repeat' with_reducible refine And.intro ?_ ?_)<;>(try (with_reducible refine hK _ ?_;clear hK K)))
    | omega)
      all_goals first | (exfalso;omega) | ((refine zF rfl ?_ ?_ ?_ ?_;(iterate 3 (focus ((try simp (disch:=omega) only [go_sem,aa,default])<;>(try omega)<;>fail)));(try simp (disch:=omega) only [go_sem,aa,default,I,B,S,zj]));done)
  · skip
    rw [fC hq hx (by omega),e]
    have hsp:=split_c r.path hr.2.2.1
    rw [h2] at hsp
    have hop:=(open_c t r.session ht.1.2.2.1 hrs).re (congrArg B (decide_eq_true h3))
    have hgn:=iT t (af r.path).1.1 ht.1.2.1.1 hri
    rw [h4] at hgn
    have hse:=sT (af r.path).1.2 (aP t (af r.path).1.1).1.stat.cversion (by omega) hcv
    rw [h5] at hse
    have hjo:=GR (af r.path).1.1 (fm (af r.path).1.2 (aP t (af r.path).1.1).1.stat.cversion).1 (by unfold okS;omega) (by unfold okS;omega)
    generalize (ez (af r.path).1.1 (fm (af r.path).1.2 (aP t (af r.path).1.1).1.stat.cversion).1).2=e1 at h6 hjo ⊢
    rcases h with h | h
    all_goals
      refine zJ Tryz.func105 Tryz.ntmps105 Tryz.results105 ?_;simp only [go_sem]
      (repeat' first
    | (with_reducible refine AR.f ?_)
    | refine an (by decide) ?_
    | (with_reducible refine AWP.cond rfl ?_ ?_<;>intro hc<;>(try simp only [hcs,beq_iff_eq,ge_iff_le,gt_iff_lt] at hc))
    | (refine aU fun Kk hKk=>(bG bp Tryz.func175 rfl (by kernel_rfl) (by simp [Tryz.ntmps175]) ?_);simp only [Tryz.ntmps175,Tryz.results175,List.toList_toArray,fk,List.length_nil,List.length_cons,Nat.reduceAdd,List.length_append,List.length_set,go_sem])
    | ((first | ((first | refine zP ((Plan.takes [0,1,2,3,4,6,7] (.fork 5 (Plan.takes [8,9,10,11] .done) 8 (Plan.takes [5,9,10,11] .done)))) (by decide +kernel) ?_ | (with_reducible first | refine zR ?_ | refine zQ (by decide +kernel) ?_ | refine zD (by decide +kernel) ?_ | refine zE (by decide +kernel) ?_ | refine zG (by decide +kernel) ?_));intro K hK) | ((first | refine zA hgc ?_ ?_ ?_ ?_ ?_ | refine zA hzc ?_ ?_ ?_ ?_ ?_ | refine zA hsp ?_ ?_ ?_ ?_ ?_ | refine zA hop ?_ ?_ ?_ ?_ ?_ | refine zA hgn ?_ ?_ ?_ ?_ ?_ | refine zA hse ?_ ?_ ?_ ?_ ?_ | refine zA hjo ?_ ?_ ?_ ?_ ?_);(focus exact rfl);(focus exact rfl);iterate 2 (focus ((try simp (disch:=omega) only [go_sem,aa,o,h,b1,b2,b3,b4,b5,b6,b7,b8])<;>(try omega)<;>fail))) | ((first | refine zN hgn rfl ?_ ?_ | refine zX hgc rfl ?_ ?_ | refine zX hzc rfl ?_ ?_ | refine zX hsp rfl ?_ ?_ | refine zX hop rfl ?_ ?_ | refine zX hgn rfl ?_ ?_ | refine zY hgn ?_ ?_ | refine zX hse rfl ?_ ?_ | refine zX hjo rfl ?_ ?_);(focus ((try simp (disch:=omega) only [go_sem,aa,o,h,b1,b2,b3,b4,b5,b6,b7,b8])<;>(try omega)<;>fail))) | (refine aend_in (v:=?_) hKk (by first | exact .inl rfl | exact .inr rfl) ?_ ?_ ?_;rotate_left;(focus ((try simp (disch:=omega) only [go_sem,aa,o,h,b1,b2,b3,b4,b5,b6,b7,b8])<;>(try omega)<;>fail));(focus ((try simp (disch:=omega) only [go_sem,aa,o,h,b1,b2,b3,b4,b5,b6,b7,b8])<;>(first | done | exact rfl)));clear hKk Kk) | ((first | (with_reducible refine aunder_i ?_ ?_<;>intro hg) | with_reducible intro hg)<;>(first | (exfalso;simp at hg;done) | (have hg':=hg;(try simp only [hcs,beq_iff_eq,ge_iff_le,gt_iff_lt] at hg');(try simp only [hg])))))<;>(try simp (disch:=omega) only [go_sem,aa,o,h,b1,b2,b3,b4,b5,b6,b7,b8])<;>(repeat' with_reducible refine And.intro ?_ ?_)<;>(try (with_reducible refine hK _ ?_;clear hK K)))
    | omega)
      all_goals first | (exfalso;omega) | ((refine zF rfl ?_ ?_ ?_ ?_;(iterate 3 (focus ((try simp (disch:=omega) only [go_sem,aa,default])<;>(try omega)<;>fail)));(try simp (disch:=omega) only [go_sem,aa,default,I,B,S,zj]));done)
  · rw [e] at hx
    have hsp:=split_c r.path hr.2.2.1
    rw [h2] at hsp
    have hop:=(open_c t r.session ht.1.2.2.1 hrs).re (congrArg B (decide_eq_true h3))
    have hgn:=iT t (af r.path).1.1 ht.1.2.1.1 hri
    rw [h4] at hgn
    have hse:=sT (af r.path).1.2 (aP t (af r.path).1.1).1.stat.cversion (by omega) hcv
    rw [h5] at hse
    have hjo:=GR (af r.path).1.1 (fm (af r.path).1.2 (aP t (af r.path).1.1).1.stat.cversion).1 (by unfold okS;omega) (by unfold okS;omega)
    rw [h6] at hjo
    rcases h with h | h
    · skip
      have hcp:ql t r=(ez (af r.path).1.1 (fm (af r.path).1.2 (aP t (af r.path).1.1).1.stat.cversion).1).1:=by unfold ql;rw [if_pos (by omega)];rfl
      have hco:qi r=0:=by unfold qi;rw [if_neg (by omega)]
      rw [hcp,hco] at hx
      have hxw:=gf (z:=z) ht hr hp hz
      rw [hx] at hxw
      simp only at hxw
      have ha:=fV t ⟨z,3,r.session,(ez (af r.path).1.1 (fm (af r.path).1.2 (aP t (af r.path).1.1).1.stat.cversion).1).1,r.data,0,0⟩ ht.1 hxw.1.2.2.2.1 hxw.1.2.2.2.2.1
      rw [iF hq hx]
      generalize ar t ⟨z,3,r.session,(ez (af r.path).1.1 (fm (af r.path).1.2 (aP t (af r.path).1.1).1.stat.cversion).1).1,r.data,0,0⟩=q at ha ⊢
      obtain ⟨a,es,e⟩:=q
      simp only at ha ⊢
      refine zJ Tryz.func105 Tryz.ntmps105 Tryz.results105 ?_;simp only [go_sem]
      (refine zW qw (zc Mr (zc (ic Tryz.func175) (zc hgc (zc hzc (zc hsp (zc hop (z4 hgn hse hjo ha))))))) (zx @o (zx @h (zx @b1 (zx @b2 (zx @b3 (zx @b4 (zx @b5 (zx @b6 (zx @b7 @b8))))))))) (z2 ?_ ?_)<;>(repeat with_reducible intro hc))
      all_goals first
        | (exfalso;omega)
        | (rw [if_pos (by omega)];(refine zF rfl ?_ ?_ ?_ ?_;(iterate 3 (focus ((try simp (disch:=omega) only [go_sem,aa,I,S])<;>(try omega)<;>fail)));(try simp (disch:=omega) only [go_sem,aa,I,S,I,B,S,zj]));done)
        | (rw [if_neg (by omega)];(refine zF rfl ?_ ?_ ?_ ?_;(iterate 3 (focus ((try simp (disch:=omega) only [go_sem,aa,default])<;>(try omega)<;>fail)));(try simp (disch:=omega) only [go_sem,aa,default,I,B,S,zj]));done)
    · skip
      have hcp:ql t r=(ez (af r.path).1.1 (fm (af r.path).1.2 (aP t (af r.path).1.1).1.stat.cversion).1).1:=by unfold ql;rw [if_pos (by omega)];rfl
      have hco:qi r=r.session:=by unfold qi;rw [if_pos (by omega)]
      rw [hcp,hco] at hx
      have hxw:=gf (z:=z) ht hr hp hz
      rw [hx] at hxw
      simp only at hxw
      have ha:=fV t ⟨z,3,r.session,(ez (af r.path).1.1 (fm (af r.path).1.2 (aP t (af r.path).1.1).1.stat.cversion).1).1,r.data,0,r.session⟩ ht.1 hxw.1.2.2.2.1 hxw.1.2.2.2.2.1
      rw [iF hq hx]
      generalize ar t ⟨z,3,r.session,(ez (af r.path).1.1 (fm (af r.path).1.2 (aP t (af r.path).1.1).1.stat.cversion).1).1,r.data,0,r.session⟩=q at ha ⊢
      obtain ⟨a,es,e⟩:=q
      simp only at ha ⊢
      refine zJ Tryz.func105 Tryz.ntmps105 Tryz.results105 ?_;simp only [go_sem]
      (refine zW qw (zc Mr (zc (ic Tryz.func175) (zc hgc (zc hzc (zc hsp (zc hop (z4 hgn hse hjo ha))))))) (zx @o (zx @h (zx @b1 (zx @b2 (zx @b3 (zx @b4 (zx @b5 (zx @b6 (zx @b7 @b8))))))))) (z2 ?_ ?_)<;>(repeat with_reducible intro hc))
      all_goals first
        | (exfalso;omega)
        | (rw [if_pos (by omega)];(refine zF rfl ?_ ?_ ?_ ?_;(iterate 3 (focus ((try simp (disch:=omega) only [go_sem,aa,I,S])<;>(try omega)<;>fail)));(try simp (disch:=omega) only [go_sem,aa,I,S,I,B,S,zj]));done)
        | (rw [if_neg (by omega)];(refine zF rfl ?_ ?_ ?_ ?_;(iterate 3 (focus ((try simp (disch:=omega) only [go_sem,aa,default])<;>(try omega)<;>fail)));(try simp (disch:=omega) only [go_sem,aa,default,I,B,S,zj]));done)
theorem Lj (t:ATree) (z:Int) (r:ARequest) (ht:okT t) (hr:r.wf) (hp:r.path.length≤1048576) (hz:okI z):ab Tryz.prog [] 105 [t.av,I z,r.av] (ret (.tup [(cF t z r).1.av,I (cF t z r).2])):=by
  by_cases hq:ju t z r
  case neg=>exact KP t z r ht hr hp hz hq
  rcases (by omega:r.op=3∨r.op=4∨r.op=5∨r.op=1∨r.op=2∨¬ (1≤r.op∧r.op≤5)) with o | o | o | o
  · exact Kn t z r ht hr hp hz hq o
  · exact J4 t z r ht hr hp hz hq o
  · exact Kc t z r ht hr hp hz hq o
  · exact KD t z r ht hr hp hz hq o
end Go.Proofs.YtjcooccnfkfjhaaGreatDoor
