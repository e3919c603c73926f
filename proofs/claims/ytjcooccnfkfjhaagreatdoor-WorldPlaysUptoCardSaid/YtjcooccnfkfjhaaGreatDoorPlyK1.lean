/- What the law leans on. No condition. -/
import Derived.WalkKit
import Derived.Deep.Quiet
import Derived.KernelRfl
import Derived.Lib.ItoaNum
import Derived.Laws.StructEq
import Derived.Lib.AppendZerosOnto
import Derived.Laws.IdiomStrings
namespace Go.Proofs.YtjcooccnfkfjhaaGreatDoor
set_option linter.unusedVariables false
set_option linter.unusedSimpArgs false
open Go Go.RowKit
theorem Zq{α:Type}{I:α→Prop}{m:α→Nat}{n:Nat}{G:α→Prop}(x:α)(g:G x)(h:I x:=by omega)(k:m x<n:=by omega):∃x,I x∧m x<n∧G x:=⟨x,h,k,g⟩
abbrev Yj:=trivial
abbrev RG:=@List.getD_eq_getElem?_getD
abbrev RH:=@List.getElem?_eq_getElem
abbrev RI:=@if_neg
abbrev RJ:=@if_pos
abbrev RK:=@List.take_of_length_le
abbrev RL:=@List.length_append
abbrev RM:=@List.getElem?_eq_some_iff
abbrev RN:=@decide_eq_true_eq
abbrev RO:=@List.length_map
abbrev RP:=@Nat.le_refl
abbrev RQ:=@List.length_cons
abbrev RR:=@decide_eq_false_iff_not
abbrev RS:=@List.getElem?_map
abbrev RT:=@List.getElem?_append_right
abbrev RU:=@Bool.and_eq_true
abbrev RV:=@List.length_take
abbrev RW:=@List.mem_cons
abbrev RX:=@Nat.zero_le
abbrev RY:=@Option.map_eq_some_iff
abbrev RZ:=@List.length_drop
abbrev R0:=@decide_eq_false
abbrev R1:=@beq_iff_eq
abbrev R2:=@List.getElem?_append_left
abbrev R3:=@List.length_set
abbrev R4:=@run_underlying
abbrev R5:=@not_false_eq_true
abbrev R6:=@List.not_mem_nil
abbrev R7:=@List.take_length
abbrev R8:=@Nat.le_trans
abbrev R9:=@List.getElem?_eq_none
abbrev Sa:=@ge_iff_le
abbrev Sb:=@gt_iff_lt
abbrev Sc:=@Nat.mul_le_mul_right
abbrev Sd:=@List.length_nil
abbrev Se:=@List.append_nil
abbrev Sf:=@List.eq_nil_of_length_eq_zero
abbrev Sg:=@Nat.sub_zero
abbrev Sh:=@Classical.byContradiction
abbrev Si:=@List.mem_cons_of_mem
abbrev Sj:=@List.nodup_cons
abbrev Sk:=@List.cons.injEq
abbrev Sl:=@List.mem_of_getElem?
abbrev Sm:=@List.take_append_of_le_length
abbrev Sn:=@List.map_append
abbrev So:=@Result.andThen_ok
abbrev Sp:=@List.mem_append
abbrev Sq:=@List.append_assoc
abbrev Sr:=@List.nodup_nil
abbrev Ss:=@Int.natCast_add
abbrev St:=@List.mem_of_mem_take
abbrev Su:=@And.intro
abbrev Sv:=@List.length_singleton
abbrev Sw:=@List.lt_irrefl
abbrev Sx:=@List.nil_append
abbrev Sy:=@Array.length_toList
abbrev Sz:=@Nat.add_mul
abbrev SA:=@List.filter_append
abbrev SB:=@List.cons_append
abbrev SC:=@Nat.min_eq_left
abbrev SD:=@List.getElem_mem
abbrev SE:=@List.filter_cons_of_neg
abbrev SF:=@List.mem_cons_self
abbrev SH:=@List.drop_drop
abbrev SI:=@true_and
abbrev SJ:=@List.mem_of_mem_drop
abbrev SK:=@List.toList_toArray
abbrev SL:=@Nat.lt_of_lt_of_le
abbrev SM:=@List.getElem?_drop
abbrev SN:=@List.take_append_drop
abbrev SO:=@Nat.zero_add
abbrev SP:=@Int.le_refl
abbrev SQ:=@Bool.or_eq_true
abbrev SR:=@List.ext_getElem?
abbrev SS:=@Sem.run_bind
abbrev ST:=@List.mem_take_iff_getElem
abbrev SU:=@List.filter_eq_self
abbrev SV:=@List.mem_map
abbrev SW:=@List.length_filter_le
abbrev SX:=@Nat.add_assoc
abbrev SY:=@Bool.not_eq_true'
abbrev SZ:=@List.pairwise_iff_getElem
abbrev S1:=@Int.eq_ofNat_of_zero_le
abbrev S2:=@List.filter_cons_of_pos
abbrev S3:=@List.filter_nil
abbrev S4:=@Sem.run_pure
abbrev S5:=@List.mem_singleton
abbrev S6:=@List.all_eq_true
abbrev S7:=@List.drop_eq_getElem_cons
abbrev S8:=@Nat.add_zero
abbrev S9:=@if_true
abbrev Ta:=@Int.toNat_natCast
abbrev Tb:=@Bool.false_eq_true
abbrev Tc:=@List.getElem?_take
abbrev Td:=@List.mem_or_eq_of_mem_set
abbrev Te:=@List.mem_drop_iff_getElem
abbrev Tf:=@List.take_zero
abbrev Tg:=@List.length_take_le
abbrev Th:=@and_self
abbrev Ti:=@Array.getD_eq_getD_getElem?
abbrev Tj:=@if_false
abbrev Tk:=@List.lt_trans
abbrev Tl:=@List.take_succ_cons
abbrev Tm:=@List.getElem_of_mem
abbrev Tn:=@Array.getElem?_eq_getElem
abbrev To:=@List.getElem?_set
abbrev Tp:=@not_true_eq_false
abbrev Tq:=@eq_false_of_ne_true
abbrev Tr:=@Array.getElem?_eq_some_iff
abbrev Ts:=@Nat.mod_eq_of_lt
abbrev Tt:=@List.getElem?_cons_succ
abbrev Tu:=@List.drop_append_of_le_length
abbrev Tv:=@Bool.eq_iff_iff
abbrev Tw:=@List.drop_zero
abbrev Tx:=@Bool.not_eq_true
abbrev Ty:=@Nat.sub_self
abbrev Tz:=@List.foldl_append
abbrev TA:=@Classical.not_not
abbrev TB:=@List.Sublist.refl
abbrev TC:=@Nat.eq_zero_or_pos
abbrev TD:=@Nat.add_sub_cancel
abbrev TE:=@List.mem_filter
abbrev TF:=@List.findIdx_le_length
abbrev TG:=@List.drop_length
abbrev TH:=@List.filter_eq_nil_iff
abbrev TJ:=@List.length_replicate
abbrev TL:=@List.map_cons
abbrev TM:=@List.mem_of_mem_eraseIdx
abbrev TN:=@Array.ext'
abbrev TO:=@Nat.lt_or_gt_of_ne
abbrev TP:=@Nat.mul_one
abbrev TQ:=@Addr.add_lit
abbrev TR:=@Nat.lt_trichotomy
abbrev TS:=@Nat.add_comm
abbrev TT:=@List.set_set
abbrev TU:=@List.take_take
abbrev TV:=@List.map_nil
abbrev TW:=@List.getElem?_set_self
abbrev TX:=@Nat.div_div_eq_div_mul
abbrev TY:=@List.length_pos_iff
abbrev TZ:=@List.set_append_right
abbrev T0:=@List.mem_insertIdx
abbrev T1:=@List.any_eq_true
abbrev T2:=@List.nil_sublist
abbrev T3:=@Array.setIfInBounds_comm
abbrev T4:=@Nat.pow_succ
abbrev T5:=@List.getElem?_modify
abbrev T6:=@Region.noSelect_spec
abbrev T7:=@List.size_toArray
abbrev T8:=@UInt8.ofNat_toNat
abbrev T9:=@List.countP_eq_length_filter
abbrev Ua:=@or_false
abbrev Ub:=@List.getElem?_range
abbrev Uc:=@List.mem_map_of_mem
abbrev Ud:=@Int.le_trans
abbrev Ue:=@run_convert_bytes_back
abbrev Uf:=@Act.put_comm
abbrev Ug:=@List.drop_eq_nil_of_le
abbrev Uh:=@List.not_of_lt_findIdx
abbrev Ui:=@Bool.true_and
abbrev Uj:=@List.getElem_map
abbrev Uk:=@List.prefix_refl
abbrev Ul:=@Nat.add_mul_mod_self_right
abbrev Um:=@Bool.false_and
abbrev Un:=@List.mem_range
abbrev Uo:=@List.getElem_range
abbrev Up:=@Int.tdiv_eq_ediv_of_nonneg
abbrev Uq:=@List.length_eraseIdx_of_lt
abbrev Ur:=@Array.getElem?_toList
abbrev Us:=@World.cell?_setCell_same'
abbrev Ut:=@Nat.shiftRight_eq_div_pow
abbrev Uu:=@List.foldl_cons
abbrev Uv:=@List.take_left'
abbrev Uw:=@World.cell?_of_block
abbrev Ux:=@Nat.le_of_eq
abbrev Uy:=@List.getElem?_set_ne
abbrev Uz:=@of_decide_eq_true
abbrev UA:=@List.findIdx_getElem
abbrev UB:=@ready_mono
abbrev UC:=@true_or
abbrev UD:=@or_true
abbrev UE:=@Region.free_spec
abbrev UF:=@Option.bind_eq_some_iff
abbrev UG:=@IntKind.wrap_i64
abbrev UH:=@List.ext_getElem
abbrev UI:=@World.size_alloc
abbrev UJ:=@List.prefix_iff_eq_take
abbrev UK:=@List.mem_replicate
abbrev UL:=@List.map_set
abbrev UM:=@Nat.lt_or_ge
abbrev UN:=@Below.heap_setCell
abbrev UO:=@UInt8.toNat_ofNat'
abbrev UP:=@Nat.xor_lt_two_pow
abbrev UQ:=@List.countP_append
abbrev UR:=@Int.le_of_lt
abbrev US:=@List.map_drop
abbrev UT:=@List.mem_iff_getElem?
abbrev UU:=@Bool.and_eq_false_iff
abbrev UV:=@UInt8.lt_iff_toNat_lt
abbrev UW:=@World.frozen?_setCell
abbrev UX:=@List.take_add_one
abbrev UY:=@List.getElem_take
abbrev UZ:=@Nat.eq_of_mul_eq_mul_right
abbrev U0:=@cond_false
abbrev U1:=@List.mem_append_left
abbrev U2:=@Bool.or_eq_false_iff
abbrev U3:=@Int.tmod_eq_emod_of_nonneg
abbrev U4:=@Nat.pow_le_pow_right
abbrev U5:=@List.append_eq
abbrev U6:=@Option.bind_some
abbrev U7:=@mem_ready
abbrev U8:=@Below.heap_alloc
abbrev U9:=@Option.isSome_iff_exists
abbrev Va:=@List.getElem?_take_of_lt
abbrev Vb:=@List.map_take
abbrev Vc:=@UInt8.toNat_inj
abbrev Vd:=@Nat.not_lt_zero
abbrev Ve:=@Nat.div_le_self
abbrev Vf:=@Int.cast_ofNat_Int
abbrev Vg:=@List.length_eq_zero_iff
abbrev Vh:=@List.countP_cons_of_pos
abbrev Vi:=@List.countP_cons_of_neg
abbrev Vj:=@List.filter_congr
abbrev Vk:=@List.length_eq_countP_add_countP
abbrev Vl:=@List.length_range
abbrev Vm:=@Bool.not_false
abbrev Vn:=@Nat.pow_zero
abbrev Vo:=@Nat.testBit_eq_decide_div_mod_eq
abbrev Vp:=@List.any_eq_false
abbrev Vq:=@Bool.not_not
abbrev Vr:=@Array.getElem?_setIfInBounds_ne
abbrev Vs:=@List.eq_nil_or_concat
abbrev Vt:=@List.concat_eq_append
abbrev Vu:=@Nat.div_eq_of_lt
abbrev Vv:=@Array.eq_empty_of_size_eq_zero
abbrev Vw:=@execOp_put
abbrev Vx:=@cond_true
abbrev Vy:=@Nat.le_add_right
abbrev Vz:=@Nat.and_two_pow_sub_one_eq_mod
abbrev VA:=@List.replicate_succ'
abbrev VB:=@List.set_append_left
abbrev VC:=@Nat.div_one
abbrev VD:=@List.mem_eraseIdx_iff_getElem
abbrev VE:=@List.findIdx_eq
abbrev VF:=@List.range_succ
abbrev VG:=@List.drop_left'
abbrev VH:=@Nat.testBit_two_pow_sub_succ
abbrev VI:=@Int.toNat_of_nonneg
abbrev VJ:=@List.flatten_append
abbrev VK:=@List.replicate_succ
abbrev VL:=@List.map_congr_left
abbrev VM:=@run_callFunc_extern
abbrev VN:=@List.filter_sublist
abbrev VO:=@Array.getElem_setIfInBounds
abbrev VP:=@callsIn_wide
abbrev VQ:=@Nat.min_self
abbrev VR:=@Array.toList_setIfInBounds
abbrev VS:=@size_zeroCells
abbrev VT:=@Array.getElem?_append_left
abbrev VU:=@wanted_put
abbrev VV:=@Bool.true_eq_false
abbrev VW:=@Nat.and_one_is_mod
abbrev VX:=@Nat.lt_of_le_of_lt
abbrev VY:=@Nat.shiftRight_xor_distrib
abbrev VZ:=@List.eraseIdx_of_length_le
abbrev V0:=@List.pairwise_cons
abbrev V1:=@List.extract_eq_take_drop
abbrev V2:=@Array.mapM_eq_mapM_toList
abbrev V3:=@Decidable.byContradiction
abbrev V4:=@Array.size_append
abbrev V5:=@Array.getElem_mem_toList
abbrev V6:=@List.eq_of_mem_replicate
abbrev V7:=@List.all_cons
abbrev V8:=@List.insertIdx_succ_cons
abbrev V9:=@Bool.false_or
abbrev Wa:=@Nat.xor_assoc
abbrev Wb:=@List.take_add
abbrev Wc:=@List.set_eq_of_length_le
abbrev Wd:=@List.mem_flatten
abbrev We:=@List.getElem?_cons_zero
abbrev Wf:=@List.map_toArray
abbrev Wg:=@wpOp_mono
abbrev Wh:=@false_or
abbrev Wi:=@and_assoc
abbrev Wj:=@Int.natCast_ediv
abbrev Wk:=@List.getElem_set
abbrev Wl:=@decide_eq_decide
abbrev Wm:=@List.length_eraseIdx_le
abbrev Wn:=@List.take_append
abbrev Wo:=@Nat.add_sub_cancel_left
abbrev Wp:=@Nat.mul_comm
abbrev Wq:=@Array.getElem?_eq_none
abbrev Wr:=@List.findIdx_eq_length
abbrev Ws:=@World.frozen?_of_block
abbrev Wt:=@Nat.xor_zero
abbrev Wu:=@Int.lt_trans
abbrev Wv:=@Int.add_zero
abbrev Ww:=@List.drop_of_length_le
abbrev Wx:=@List.headD_cons
abbrev Wy:=@Option.map_none
abbrev Wz:=@Option.map_some
abbrev WA:=@Oper.apart_spec
abbrev WB:=@Int.natCast_mul
abbrev WC:=@Option.some.inj
abbrev WD:=@List.mapM_cons
abbrev WE:=@grownCap_ge
abbrev WF:=@Array.mem_toList_iff
abbrev WG:=@List.range_eq_range'
abbrev WH:=@Array.replicate_succ
abbrev WI:=@Array.replicate_zero
abbrev WJ:=@Bool.and_false
abbrev WK:=@List.foldl_nil
abbrev WM:=@and_true
abbrev WN:=@List.drop_succ_cons
abbrev WO:=@List.replicate_zero
abbrev WP:=@Array.toList_modify
abbrev WQ:=@Int.natCast_eq_zero
abbrev WR:=@List.append_toArray
abbrev WS:=@List.countP_pos_iff
abbrev WT:=@List.getD_cons_zero
abbrev WU:=@wp_region_any
abbrev WV:=@Bool.and_true
abbrev WW:=@Nat.mod_lt
abbrev WX:=@List.map_map
abbrev WY:=@Nat.lt_trans
abbrev WZ:=@getD_set_ne
abbrev W6:=@u32_xor_nat
abbrev W7:=@Ne.symm
abbrev W8:=@qOp_mono
inductive DV where
 |int (k:IntKind) (n:Int)
 |bool (b:Bool)
 |str (l:List UInt8)
 |sl (sz:Nat) (rows:List (List DV))
 |sc (v:Value)
def aW(l:List UInt8):Value:=.string ⟨l.toArray⟩
inductive X7 (ok:Nat→Prop) (w:World):DV→Value→Prop
 |int (k:IntKind) (n:Int):X7 ok w (.int k n) (.int k n)
 |bool (b:Bool):X7 ok w (.bool b) (.bool b)
 |str (l:List UInt8):X7 ok w (.str l) (aW l)
 |sc (v:Value) (h:v.oneCell'=true):X7 ok w (.sc v) v
 |sc0 (A:Option Addr):X7 ok w (.sc (.slice none 0 0)) (.slice A 0 0)
 |sl (sz:Nat) (rows:List (List DV)) (A:Option Addr) (cap:Nat) (u:Nat→Nat→Value)
   (hcap:rows.length≤cap) (hsz:∀ r,r∈rows→r.length=sz)
   (hc:0<rows.length→∃ b o,A=some ⟨b,o,none⟩∧ok b∧
    ∀(i:Nat) (r:List DV),rows[i]?=some r→∀(j:Nat) (c:DV),r[j]?=some c→w.cell? ⟨b,o+(i*sz+j),none⟩=some (u i j))
   (hr:∀(i:Nat) (r:List DV),rows[i]?=some r→∀(j:Nat) (c:DV),r[j]?=some c→X7 ok w c (u i j)) :
   X7 ok w (.sl sz rows) (.slice A rows.length cap)
theorem bM{w w':World}{b o:Nat}(h:w'.heap[b]?=w.heap[b]?):w'.cell? ⟨b,o,none⟩=w.cell? ⟨b,o,none⟩:=
 Uw (a:=⟨b,o,none⟩) h
theorem X7.mono{ok ok':Nat→Prop}{w w':World}{x:DV}{v:Value}(h:X7 ok w x v)
  (hk:∀ b,ok b→ok' b∧w'.heap[b]?=w.heap[b]?):X7 ok' w' x v:=by
 induction h with
 |int k n=>exact .int k n
 |bool b=>exact .bool b
 |str l=>exact .str l
 |sc v h=>exact .sc v h
 |sc0 A=>exact .sc0 A
 | sl sz rows A cap u hcap hsz hc hr ih=>
   refine .sl sz rows A cap u hcap hsz (fun hp=>?_) ih;obtain⟨b,o,hA,hb,hcell⟩:=hc hp;exact⟨b,o,hA,(hk b hb).1,fun i r hi j c hj=>(bM (hk b hb).2).trans (hcell i r hi j c hj)⟩
inductive AV where
 |d (x:DV)
 |agg (cs:List AV)
 |tup (vs:List AV)
 |ptr (k off:Nat)
 |rp (k sz i off:Nat)
 |osl (k sz off n:Nat)
 |dp (row:List DV) (off:Nat)
 |clo (f:FuncId) (first caps:List AV)
 |mp (k:Nat)
 |gd (g:Bool) (v:AV)
 |any
inductive RepV (ρ:List (Option (Nat×Nat))) (ok:Nat→Prop) (w:World):AV→Value→Prop
 |d (x:DV) (v:Value) (h:X7 ok w x v):RepV ρ ok w (.d x) v
 |agg (cs:List AV) (us:List Value) (hl:us.length=cs.length) (h1:∀ u,u∈us→u.oneCell'=true)
   (hr:∀(j:Nat) (c:AV) (u:Value),cs[j]?=some c→us[j]?=some u→RepV ρ ok w c u):RepV ρ ok w (.agg cs) (.agg us.toArray)
 |tup (cs:List AV) (us:List Value) (hl:us.length=cs.length)
   (hr:∀(j:Nat) (c:AV) (u:Value),cs[j]?=some c→us[j]?=some u→RepV ρ ok w c u):RepV ρ ok w (.tup cs) (.tuple us.toArray)
 |ptr (k off b m:Nat) (h:ρ[k]?=some (some (b,m))):RepV ρ ok w (.ptr k off) (.pointer (some ⟨b,off,none⟩))
 |rp (k sz i off b m:Nat) (h:ρ[k]?=some (some (b,m))):RepV ρ ok w (.rp k sz i off) (.pointer (some ⟨b,i*sz+off,none⟩))
 |osl (k sz off n b m cap:Nat) (h:ρ[k]?=some (some (b,m))) (hm:(off+cap)*sz=m) (hn:n≤cap) :
   RepV ρ ok w (.osl k sz off n) (.slice (some ⟨b,off*sz,none⟩) n cap)
 |oslnil (k sz:Nat) (A:Option Addr) (h:ρ[k]?=some none):RepV ρ ok w (.osl k sz 0 0) (.slice A 0 0)
 |dp (row:List DV) (off b o:Nat) (u:Nat→Value) (hb:ok b)
   (hc:∀(j:Nat) (c:DV),row[j]?=some c→w.cell? ⟨b,o+j,none⟩=some (u j))
   (hr:∀(j:Nat) (c:DV),row[j]?=some c→X7 ok w c (u j)):RepV ρ ok w (.dp row off) (.pointer (some ⟨b,o+off,none⟩))
 |clo (f:FuncId) (first caps:List AV) (us vs:List Value) (hl:us.length=first.length) (hl':vs.length=caps.length)
   (hr:∀(j:Nat) (c:AV) (u:Value),first[j]?=some c→us[j]?=some u→RepV ρ ok w c u)
   (hr':∀(j:Nat) (c:AV) (u:Value),caps[j]?=some c→vs[j]?=some u→RepV ρ ok w c u) :
   RepV ρ ok w (.clo f first caps) (.func (.func f) us.toArray vs.toArray)
 |mp (k b m:Nat) (h:ρ[k]?=some (some (b,m))):RepV ρ ok w (.mp k) (.map (some b))
 |gd (g:Bool) (v:AV) (u:Value) (ht:g=true→RepV ρ ok w v u) (hf:g=false→u=undef):RepV ρ ok w (.gd g v) u
 |any (u:Value):RepV ρ ok w .any u
theorem jd{ok:Nat→Prop}{w:World}{u:Value}(h:X7 ok w (.sc (.slice none 0 0)) u):∃ A,u=.slice A 0 0:=by
 cases h with
 |sc _ _=>exact⟨none,rfl⟩
 |sc0 A=>exact⟨A,rfl⟩
theorem X7.one{ok:Nat→Prop}{w:World}{x:DV}{v:Value}(h:X7 ok w x v):v.oneCell'=true:=by cases h<;>first|rfl|assumption
theorem RepV.mono{ρ ρ':List (Option (Nat×Nat))}{ok ok':Nat→Prop}{w w':World}{x:AV}{v:Value}(h:RepV ρ ok w x v)
  (hρ:∀(k:Nat) (p:Option (Nat×Nat)),ρ[k]?=some p→ρ'[k]?=some p) (hk:∀ b,ok b→ok' b∧w'.heap[b]?=w.heap[b]?):RepV ρ' ok' w' x v:=by
 induction h with
 |d x v h=>exact .d x v (h.mono hk)
 |agg cs us hl h1 hr ih=>exact .agg cs us hl h1 ih
 |tup cs us hl hr ih=>exact .tup cs us hl ih
 |ptr k off b m h=>exact .ptr k off b m (hρ _ _ h)
 |rp k sz i off b m h=>exact .rp k sz i off b m (hρ _ _ h)
 |osl k sz off n b m cap h hm hn=>exact .osl k sz off n b m cap (hρ _ _ h) hm hn
 |oslnil k sz A h=>exact .oslnil k sz A (hρ _ _ h)
 | dp row off b o u hb hc hr=>
   exact .dp row off b o u (hk b hb).1 (fun j c hj=>(bM (hk b hb).2).trans (hc j c hj)) fun j c hj=>(hr j c hj).mono hk
 |clo f first caps us vs hl hl' hr hr' ih ih'=>exact .clo f first caps us vs hl hl' ih ih'
 |mp k b m h=>exact .mp k b m (hρ _ _ h)
 |gd g v u ht hf ih=>exact .gd g v u ih hf
 |any u=>exact .any u
def aL(b:UInt8):List DV:=[.int .u8 b.toNat]
def g0:Nat→List (List UInt8×Int)→List MapEntry
 |_,[]=>[]
 |i,(k,v)::r=>⟨aW k,.int .i64 v,i⟩::g0 (i+1) r
def fc(l:List (List UInt8×Int)):List MapEntry:=g0 0 l
inductive ABlk where
 |cells (cs:List AV)
 |rows (sz:Nat) (rs:List (List DV))
 |full (sz:Nat) (rs:List (List DV))
 |bytes (l:List UInt8)
 |map (es:List (List UInt8×Int))
 |iter (k:Nat) (since:Nat) (seen:List Nat) (last:Nat)
 |dead
@[simp] def ABlk.isObj:ABlk→Bool
 |.map _=>true
 |.iter _ _ _ _=>true
 |_=>false
def sV(ρ:List (Option (Nat×Nat)))(ok:Nat→Prop)(w:World)(us:Array Value):ABlk→Prop
 |.cells cs=>us.size=cs.length∧∀(j:Nat) (c:AV) (u:Value),cs[j]?=some c→us[j]?=some u→RepV ρ ok w c u
 |.rows sz rs=>(∀ r,r∈rs→r.length=sz)∧rs.length*sz≤us.size∧
   ∀(i:Nat) (r:List DV),rs[i]?=some r→∀(j:Nat) (c:DV) (u:Value),r[j]?=some c→us[i*sz+j]?=some u→X7 ok w c u
 |.full sz rs=>(∀ r,r∈rs→r.length=sz)∧rs.length*sz=us.size∧
   ∀(i:Nat) (r:List DV),rs[i]?=some r→∀(j:Nat) (c:DV) (u:Value),r[j]?=some c→us[i*sz+j]?=some u→X7 ok w c u
 |.bytes l=>(∀ r,r∈l.map aL→r.length=1)∧(l.map aL).length*1≤us.size∧
   ∀(i:Nat) (r:List DV),(l.map aL)[i]?=some r→∀(j:Nat) (c:DV) (u:Value),r[j]?=some c→us[i*1+j]?=some u→X7 ok w c u
 |_=>True
def eo(ρ:List (Option (Nat×Nat)))(ok:Nat→Prop)(w:World)(us:Array Value)(x:ABlk):Prop:=(∀ u,u∈us.toList→u.oneCell'=true)∧sV ρ ok w us x
theorem sV.mono{ρ ρ':List (Option (Nat×Nat))}{ok ok':Nat→Prop}{w w':World}{us:Array Value}{x:ABlk}(h:sV ρ ok w us x)
  (hρ:∀(k:Nat) (p:Option (Nat×Nat)),ρ[k]?=some p→ρ'[k]?=some p) (hk:∀ b,ok b→ok' b∧w'.heap[b]?=w.heap[b]?):sV ρ' ok' w' us x:=by
 cases x with
 |cells cs=>exact⟨h.1,fun j c u hj hu=>(h.2 j c u hj hu).mono hρ hk⟩
 |rows sz rs=>exact⟨h.1,h.2.1,fun i r hi j c u hj hu=>(h.2.2 i r hi j c u hj hu).mono hk⟩
 |full sz rs=>exact⟨h.1,h.2.1,fun i r hi j c u hj hu=>(h.2.2 i r hi j c u hj hu).mono hk⟩
 |bytes l=>exact⟨h.1,h.2.1,fun i r hi j c u hj hu=>(h.2.2 i r hi j c u hj hu).mono hk⟩
 |map es=>exact h
 |iter k a b c=>exact h
 |dead=>exact h
theorem eo.mono{ρ ρ':List (Option (Nat×Nat))}{ok ok':Nat→Prop}{w w':World}{us:Array Value}{x:ABlk}(h:eo ρ ok w us x)
  (hρ:∀(k:Nat) (p:Option (Nat×Nat)),ρ[k]?=some p→ρ'[k]?=some p) (hk:∀ b,ok b→ok' b∧w'.heap[b]?=w.heap[b]?):eo ρ' ok' w' us x:=
 ⟨h.1,h.2.mono hρ hk⟩
def fH(ρ:List (Option (Nat×Nat)))(hp:List ABlk)(b:Nat):Prop:=∃(k:Nat) (blk:ABlk) (m:Nat),hp[k]?=some blk∧blk≠ABlk.dead∧ρ[k]?=some (some (b,m))
def KP:List (Nat×List Value):=[(3,Lib.pow10Tab.map fun z=>Value.int .u64 z)]
def eY(w:World):Prop:=∀ p,p∈KP→∃ ty fz,w.heap[p.1]?=some (.cells p.2.toArray ty fz)
structure Ent where
 w0:World
 L0:Nat→Prop
 S0:Nat→Prop
 ρ0:List (Option (Nat×Nat))
 hS:∀ b,S0 b→b<w0.heap.size∧¬ L0 b
 hL:∀ b,L0 b→∃(k m:Nat),ρ0[k]?=some (some (b,m))
 hT:eY w0
 hTL:∀ p,p∈KP→¬ L0 p.1
def okB(E:Ent)(ρ:List (Option (Nat×Nat)))(hp:List ABlk)(w:World)(b:Nat):Prop:=(E.S0 b∨E.w0.heap.size≤b)∧b<w.heap.size∧¬ fH ρ hp b
structure Fr (L:Nat→Prop) (w w':World):Prop where
 os:w'.os=w.os
 tape:w'.tape=w.tape
 output:w'.output=w.output
 size:w.heap.size≤w'.heap.size
 block:∀ b,b<w.heap.size→¬ L b→w'.heap[b]?=w.heap[b]?
theorem Fr.refl(L:Nat→Prop)(w:World):Fr L w w:=⟨rfl,rfl,rfl,RP _,fun _ _ _=>rfl⟩
theorem Fr.of_below{L:Nat→Prop}{w w1 w2:World}(h:Fr L w w1)(h2:Below w1.heap.size w1 w2):Fr L w w2:=
 ⟨h2.os.trans h.os,h2.tape.trans h.tape,h2.output.trans h.output,R8 h.size h2.size,fun b hb hL=>(h2.block b (SL hb h.size)).trans (h.block b hb hL)⟩
def wj(us:Array Value)(fz:Nat×Nat):Prop:=∀ j,j<us.size→¬ (fz.1≤j∧j<fz.2)
def plain(x:ABlk)(us:Array Value)(fz:Nat×Nat):Prop:=(∃ l,x=.bytes l)∨¬ (fz.1≤us.size∧us.size<fz.2)
def dJ(ρ:List (Option (Nat×Nat)))(ok:Nat→Prop)(w:World)(m:Nat)(o:Obj):ABlk→Prop
 |.map es=>o=.map (fc es).toArray es.length
 |.iter k since seen last=>∃ b m',ρ[k]?=some (some (b,m'))∧o=.mapIter (some b) since seen.toArray last
 |x=>∃ us ty fz,o=.cells us ty fz∧us.size=m∧(wj us fz∧plain x us fz)∧eo ρ ok w us x
theorem dJ.cells{ρ:List (Option (Nat×Nat))}{ok:Nat→Prop}{w:World}{m:Nat}{o:Obj}{x:ABlk}(hm:x.isObj=false) :
  dJ ρ ok w m o x↔∃ us ty fz,o=.cells us ty fz∧us.size=m∧(wj us fz∧plain x us fz)∧eo ρ ok w us x:=by
 cases x<;>first|exact Iff.rfl|simp at hm
theorem dJ.mono{ρ ρ':List (Option (Nat×Nat))}{ok ok':Nat→Prop}{w w':World}{m:Nat}{o:Obj}{x:ABlk}(h:dJ ρ ok w m o x)
  (hρ:∀(k:Nat) (p:Option (Nat×Nat)),ρ[k]?=some p→ρ'[k]?=some p) (hk:∀ b,ok b→ok' b∧w'.heap[b]?=w.heap[b]?):dJ ρ' ok' w' m o x:=by
 by_cases hm:x.isObj=false
 ·obtain⟨us,ty,fz,h1,h2,h3,h4⟩:=(dJ.cells hm).1 h
  exact(dJ.cells hm).2 ⟨us,ty,fz,h1,h2,h3,h4.mono hρ hk⟩
 ·cases x with
  |map es=>exact h
  |iter k a b c=>obtain⟨b',m',h1,h2⟩:=h;exact⟨b',m',hρ _ _ h1,h2⟩
  |_=>simp at hm
structure X5 (E:Ent) (ρ:List (Option (Nat×Nat))) (hp:List ABlk) (w:World):Prop where
 len:ρ.length=hp.length
 obj:∀(k:Nat) (x:ABlk) (b m:Nat),hp[k]?=some x→ρ[k]?=some (some (b,m))→x≠.dead→
  (E.L0 b∨E.w0.heap.size≤b)∧∃ o,w.heap[b]?=some o∧dJ ρ (okB E ρ hp w) w m o x
 nil:∀(k:Nat) (x:ABlk),hp[k]?=some x→ρ[k]?=some none→x=.dead∨∃ sz,x=.rows sz []
 inj:∀(k k':Nat) (x x':ABlk) (b m m':Nat),hp[k]?=some x→hp[k']?=some x'→x≠.dead→x'≠.dead→ρ[k]?=some (some (b,m))→ρ[k']?=some (some (b,m'))→k=k'
 fr:Fr E.L0 E.w0 w
theorem a8{w:World}{b:Nat}{o:Obj}(h:w.heap[b]?=some o):b<w.heap.size:=(Tr.1 h).1
theorem X5.blk{E:Ent}{ρ:List (Option (Nat×Nat))}{hp:List ABlk}{w:World}(h:X5 E ρ hp w)(k:Nat)(x:ABlk)(b m:Nat)(hx:hp[k]?=some x)(hk:ρ[k]?=some (some (b,m)))(hd:x≠.dead∧x.isObj=false) :
  (E.L0 b∨E.w0.heap.size≤b)∧∃ us ty fz,w.heap[b]?=some (.cells us ty fz)∧us.size=m∧(wj us fz∧plain x us fz)∧eo ρ (okB E ρ hp w) w us x:=by
 obtain⟨h1,o,h2,h3⟩:=h.obj k x b m hx hk hd.1;obtain⟨us,ty,fz,h4,h5⟩:=(dJ.cells hd.2).1 h3;exact⟨h1,us,ty,fz,by rw[h2,h4],h5⟩
theorem X5.live_lt{E:Ent}{ρ:List (Option (Nat×Nat))}{hp:List ABlk}{w:World}(h:X5 E ρ hp w){b:Nat}(hb:fH ρ hp b):b<w.heap.size:=by obtain⟨k,x,m,hx,hd,hk⟩:=hb;obtain⟨_,o,hw,_⟩:=h.obj k x b m hx hk hd;exact a8 hw
theorem gj{E:Ent}{ρ:List (Option (Nat×Nat))}{hp:List ABlk}{w w':World}(hb:Below w.heap.size w w') :
  ∀ b,okB E ρ hp w b→okB E ρ hp w' b∧w'.heap[b]?=w.heap[b]?:=
 fun b ⟨h1,h2,h3⟩=>⟨⟨h1,SL h2 hb.size,h3⟩,hb.block b h2⟩
theorem X5.below{E:Ent}{ρ:List (Option (Nat×Nat))}{hp:List ABlk}{w w':World}(h:X5 E ρ hp w)(hb:Below w.heap.size w w'):X5 E ρ hp w':=by refine⟨h.len,fun k x b m hx hk hd=>?_,h.nil,h.inj,h.fr.of_below hb⟩;obtain⟨h1,o,hw,h2⟩:=h.obj k x b m hx hk hd;exact⟨h1,o,(hb.block b (a8 hw)).trans hw,h2.mono (fun _ _ hh=>hh) (gj hb)⟩
theorem X5.tabsAt{E:Ent}{ρ:List (Option (Nat×Nat))}{hp:List ABlk}{w:World}(h:X5 E ρ hp w):eY w:=fun p hp'=>by obtain⟨ty,fz,h1⟩:=E.hT p hp';exact⟨ty,fz,(h.fr.block p.1 (a8 h1) (E.hTL p hp')).trans h1⟩
theorem X5.tabLive{E:Ent}{ρ:List (Option (Nat×Nat))}{hp:List ABlk}{w:World}(h:X5 E ρ hp w){p:Nat×List Value}(hp':p∈KP):¬ fH ρ hp p.1:=by
 intro⟨k,x,m,hx,hd,hk⟩;obtain⟨ty,fz,h1⟩:=E.hT p hp';rcases(h.obj k x p.1 m hx hk hd).1 with h2|h2
 ·exact E.hTL p hp' h2
 ·have:=a8 h1;omega
theorem eY.below{w w':World}(h:eY w)(hb:Below w.heap.size w w'):eY w':=fun p hp=>by obtain⟨ty,fz,h1⟩:=h p hp;exact⟨ty,fz,(hb.block p.1 (a8 h1)).trans h1⟩
structure ASt where
 np:Nat
 nt:Nat
 env:List (Nat×AV)
 hp:List ABlk
def cy:List (Nat×AV)→Nat→AV
 |[],_=>.any
 |(k,v)::r,t=>if k=t then v else cy r t
structure Rep (E:Ent) (s:ASt) (ρ:List (Option (Nat×Nat))) (a:Act) (w:World):Prop where
 np:E.ρ0.length=s.np
 nodef:a.defers=[]
 nt:a.tmps.size=s.nt
 env:∀ t,RepV ρ (okB E ρ s.hp w) w (cy s.env t) (a.tmps.getD t undef)
 heap:X5 E ρ s.hp w
 pre:∀(k:Nat) (p:Option (Nat×Nat)),E.ρ0[k]?=some p→ρ[k]?=some p
theorem Rep.below{E:Ent}{s:ASt}{ρ:List (Option (Nat×Nat))}{a:Act}{w w':World}(h:Rep E s ρ a w)(hb:Below w.heap.size w w'):Rep E s ρ a w':=
 ⟨h.np,h.nodef,h.nt,fun t=>(h.env t).mono (fun _ _ hh=>hh) (gj hb),h.heap.below hb,h.pre⟩
def fJ(env:List (Nat×AV))(dst:Option Tmp)(v:AV):List (Nat×AV):=
 match dst with
 |none=>env
 |some t=>(t,v)::env
def gw(nt:Nat):Option Tmp→Prop
 |none=>True
 |some t=>t<nt
theorem Rep.put{E:Ent}{s:ASt}{ρ:List (Option (Nat×Nat))}{a:Act}{w:World}(h:Rep E s ρ a w){dst:Option Tmp}{v:AV}{u:Value}(hd:gw s.nt dst)
  (hv:RepV ρ (okB E ρ s.hp w) w v u):Rep E { s with env:=fJ s.env dst v } ρ (a.put dst u) w:=by
 cases dst with
 |none=>exact h
 | some t=>
   refine⟨h.np,h.nodef,by simp[Act.put,h.nt],fun t'=>?_,h.heap,h.pre⟩;have hlt:t<a.tmps.size:=by rw[h.nt];exact hd
   simp only[fJ,cy,Act.put]
   by_cases e:t=t'
   ·subst e
    simp only[S9]
    have:(a.tmps.setIfInBounds t u).getD t undef=u:=by simp[Array.getD,hlt]
    rw[this];exact hv
   ·simp only[e,Tj]
    have:(a.tmps.setIfInBounds t u).getD t' undef=a.tmps.getD t' undef:=by simp only[Ti,Vr e]
    rw[this];exact h.env t'
inductive TK where
 |int (k:IntKind)
 |bool
 |str
 |slice (e:TypeId)
 |struct (fs:List (Nat×Nat×TypeId))
 |array (n:Nat) (e:TypeId)
 |pointer (e:TypeId)
 |map (k e:TypeId)
 |func
 |other
structure TI where
 size:Nat
 bytes:Nat
 zero:List DV
 kind:TK
 cmp:List TK:=[]
def DV.val:DV→Value
 |.int k n=>.int k n
 |.bool b=>.bool b
 |.str l=>aW l
 |.sl _ _=>undef
 |.sc v=>v
def TI.agg(ti:TI):Bool:=
 match ti.kind with
 |.struct _=>true
 |.array _ _=>true
 |_=>false
def ul(P:Program)(fields:Array Field)(fs:List (Nat×Nat×TypeId)):Prop:=
 ∀(j:Nat) (o s t:Nat),fs[j]?=some (o,s,t)→∃ f,fields[j]?=some f∧f.offset=o∧f.type=t∧s≠0∧∃ i,P.info? t=some i∧i.size=s
def Kz(P:Program)(d:TypeDesc):TK→Prop
 |.int k=>d=.int k
 |.bool=>d=.bool
 |.str=>d=.string
 |.slice e=>d=.slice e
 |.struct fs=>∃ fields,d=.struct fields∧fields.size=fs.length∧ul P fields fs
 |.array n e=>d=.array n e
 |.pointer e=>d=.pointer e
 |.map k e=>d=.map k e
 |.func=>∃ a b c,d=.func a b c
 |.other=>True
def nw(P:Program)(one:TypeId→Option (List TK)):List Field→Nat→Option (List TK)
 |[],_=>some []
 | f::r,o=>
   match one f.type,nw P one r (o+P.cellsOf f.type) with
   | some a, some b => if f.name ≠ "_" ∧ f.offset = o ∧ a.length = P.cellsOf f.type ∧ 0 < a.length then some (a ++ b) else none
   |_,_=>none
def iq(P:Program):Nat→TypeId→Option (List TK)
 |0,_=>none
 | d+1,t=>
   match P.underlying t with
   |some .bool=>some [.bool]
   |some .string=>some [.str]
   |some (.int k)=>some [.int k]
   |some (.struct fs)=>if P.stoodInHeld t then none else nw P (iq P d) fs.toList 0
   |_=>none
def KO(P:Program)(t:TypeId)(ks:List TK):Prop:=iq P 8 t=some ks∧P.eqGuardType P.depth t=false∧∃ fs,P.underlying t=some (.struct fs)
structure TyOk (P:Program) (t:TypeId) (ti:TI):Prop where
 info:∃ i z,P.info? t=some i∧i.size=ti.size∧i.bytes=ti.bytes∧i.zero=some z∧(if ti.agg then z=.agg (ti.zero.map DV.val).toArray else[z]=ti.zero.map DV.val)
 und:∃ d,P.underlying t=some d∧Kz P d ti.kind
 one:∀ x,x∈ti.zero→x.val.oneCell'=true∧∀ sz rs,x≠.sl sz rs
 zl:ti.zero.length=ti.size
 cmp:ti.cmp≠[]→KO P t ti.cmp
def ap(P:Program)(T:TypeId→TI):Prop:=∀ t,(match (T t).kind with|.other=>True|_=>TyOk P t (T t))
def aj:AV→AV
 |.gd _ v=>v
 |v=>v
def de:AV→Prop
 |.gd g _=>g=true
 |_=>True
theorem ai{ρ:List (Option (Nat×Nat))}{ok:Nat→Prop}{w:World}{x:AV}{u:Value}(h:RepV ρ ok w x u)(hg:de x):RepV ρ ok w (aj x) u:=by
 cases x with
 |gd g v=>cases h with|gd _ _ _ ht hf=>exact ht hg
 |_=>exact h
abbrev I(n:Int):AV:=.d (.int .i64 n)
abbrev B(b:Bool):AV:=.d (.bool b)
abbrev S(l:List UInt8):AV:=.d (.str l)
structure PR where
 ok:Prop
 v:AV
def tw(op:BinOp)(k k':IntKind)(a b:Int):PR:=
 match op with
 |.add=>⟨k=k',.d (.int k (k.wrap (a+b)))⟩
 |.sub=>⟨k=k',.d (.int k (k.wrap (a-b)))⟩
 |.mul=>⟨k=k',.d (.int k (k.wrap (a*b)))⟩
 |.quo=>⟨k=k'∧b≠0,.d (.int k (k.wrap (a.tdiv b)))⟩
 |.rem=>⟨k=k'∧b≠0,.d (.int k (a.tmod b))⟩
 |.and=>⟨k=k',.d (.int k (bits .and k a b))⟩
 |.or=>⟨k=k',.d (.int k (bits .or k a b))⟩
 |.xor=>⟨k=k',.d (.int k (bits .xor k a b))⟩
 |.andNot=>⟨k=k',.d (.int k (bits .andNot k a b))⟩
 |.shl=>⟨0≤b∧b≤k.bits,.d (.int k (k.wrap (a*2^b.toNat)))⟩
 |.shr=>⟨0≤b∧b≤k.bits,.d (.int k (a/2^b.toNat))⟩
 |.eql=>⟨k=k',.d (.bool (decide (a=b)))⟩
 |.neq=>⟨k=k',.d (.bool (!decide (a=b)))⟩
 |.lss=>⟨k=k',.d (.bool (decide (a<b)))⟩
 |.leq=>⟨k=k',.d (.bool (decide (a≤b)))⟩
 |.gtr=>⟨k=k',.d (.bool (decide (b<a)))⟩
 |.geq=>⟨k=k',.d (.bool (decide (b≤a)))⟩
def ol(a b:List UInt8):Bool:=Op.bytesLess a b
def vq(op:BinOp)(a b:List UInt8):PR:=
 match op with
 |.add=>⟨a.length+b.length≤9223372036854775807,.d (.str (a++b))⟩
 |.eql=>⟨True,.d (.bool (decide (a=b)))⟩
 |.neq=>⟨True,.d (.bool (!decide (a=b)))⟩
 |.lss=>⟨True,.d (.bool (ol a b))⟩
 |.leq=>⟨True,.d (.bool (ol a b||decide (a=b)))⟩
 |.gtr=>⟨True,.d (.bool (!(ol a b||decide (a=b))))⟩
 |.geq=>⟨True,.d (.bool (!ol a b))⟩
 |_=>⟨False,.any⟩
def pz(ti:TI)(op:BinOp)(a b:Bool):PR:=
 match ti.kind,op with
 |.bool,.eql=>⟨True,.d (.bool (a==b))⟩
 |.bool,.neq=>⟨True,.d (.bool (!(a==b)))⟩
 |_,_=>⟨False,.any⟩
def fQ:TK→AV→AV→Prop×Bool
 |.int k,.d (.int k1 a),.d (.int k2 b)=>(k1=k∧k2=k,decide (a=b))
 |.bool,.d (.bool a),.d (.bool b)=>(True,decide (a=b))
 |.str,.d (.str a),.d (.str b)=>(True,decide (a=b))
 |_,_,_=>(False,false)
def aH:List TK→List AV→List AV→Prop×Bool
 |[],[],[]=>(True,true)
 |k::ks,x::xs,y::ys=>((fQ k x y).1∧(aH ks xs ys).1,(fQ k x y).2&&(aH ks xs ys).2)
 |_,_,_=>(False,false)
def DJ(ti:TI)(op:BinOp)(xs ys:List AV):PR:=
 match op with
 |.eql=>⟨(ti.kind matches .other)=false∧ti.cmp≠[]∧(aH ti.cmp xs ys).1,.d (.bool (aH ti.cmp xs ys).2)⟩
 |.neq=>⟨(ti.kind matches .other)=false∧ti.cmp≠[]∧(aH ti.cmp xs ys).1,.d (.bool (!(aH ti.cmp xs ys).2))⟩
 |_=>⟨False,.any⟩
def y5:AV→Option Bool
 |.ptr _ _=>some false
 |.rp _ _ _ _=>some false
 |.dp _ _=>some false
 |.d (.sc (.pointer none))=>some true
 |_=>none
def uf(ti:TI)(op:BinOp)(x:AV):AV→PR
 | .d (.sc (.pointer none))=>
   (match y5 x,ti.kind,op with
   |some b,.pointer _,.eql=>⟨True,.d (.bool b)⟩
   |some b,.pointer _,.neq=>⟨True,.d (.bool (!b))⟩
   |_,_,_=>⟨False,.any⟩)
 |_=>⟨False,.any⟩
def Ku(ti:TI)(op:BinOp):AV→AV→PR
 |.d (.int k a),.d (.int k' b)=>tw op k k' a b
 |.d (.str a),.d (.str b)=>vq op a b
 |.d (.bool a),.d (.bool b)=>pz ti op a b
 |.agg xs,.agg ys=>DJ ti op xs ys
 |x,y=>uf ti op x y
def aun(op:UnOp):AV→PR
 |.d (.bool b)=>(match op with|.not=>⟨True,.d (.bool (!b))⟩|_=>⟨False,.any⟩)
 | .d (.int k n)=>(match op with
   |.neg=>⟨True,.d (.int k (k.wrap (0-n)))⟩
   |.xor=>⟨True,.d (.int k (bits .xor k (if k.signed then -1 else k.max) n))⟩
   |_=>⟨False,.any⟩)
 |_=>⟨False,.any⟩
def Ak(c x y:AV):PR:=
 match aj c,aj x,aj y with
 |.d (.bool c'),.d (.bool p),.d (.bool q)=>⟨de c∧(c'=true→de x)∧(c'=false→de y),.d (.bool (bif c' then p else q))⟩
 |_,_,_=>⟨False,.any⟩
def IS(i:Nat):AV→PR
 |.tup vs=>⟨i<vs.length,vs.getD i .any⟩
 |_=>⟨False,.any⟩
def OG:AV→PR
 |.ptr k off=>⟨True,.ptr k off⟩
 |.rp k sz i off=>⟨True,.rp k sz i off⟩
 |.dp row off=>⟨True,.dp row off⟩
 |.clo f a b=>⟨True,.clo f a b⟩
 |_=>⟨False,.any⟩
def rK(ti:TI):AV→PR
 |.d (.int _ n)=>(match ti.kind with|.int k'=>⟨True,.d (.int k' (k'.wrap n))⟩|_=>⟨False,.any⟩)
 |.d (.str l)=>(match ti.kind with|.str=>⟨True,.d (.str l)⟩|_=>⟨False,.any⟩)
 |_=>⟨False,.any⟩
def H2(ti:TI):AV→PR
 |.d (.str l)=>(match ti.kind with|.str=>⟨True,I l.length⟩|_=>⟨False,.any⟩)
 |.d (.sl _ rows)=>(match ti.kind with|.slice _=>⟨True,I rows.length⟩|_=>⟨False,.any⟩)
 |.osl _ _ _ n=>(match ti.kind with|.slice _=>⟨True,I n⟩|_=>⟨False,.any⟩)
 |.d (.sc (.slice none 0 0))=>(match ti.kind with|.slice _=>⟨True,I 0⟩|_=>⟨False,.any⟩)
 |_=>⟨False,.any⟩
def amm(mx:Bool):AV→AV→PR
 |.d (.int k a),.d (.int k' b)=>⟨k=k',.d (.int k (if mx then(if b > a then b else a) else(if b<a then b else a)))⟩
 |_,_=>⟨False,.any⟩
def Lj(ti:TI)(i:Nat)(x:AV):PR:=
 match ti.kind with
 | .struct fs=>
   match fs[i]?,x with
   |some (o,_,_),.ptr k off=>⟨True,.ptr k (off+o)⟩
   |some (o,_,_),.rp k sz j off=>⟨True,.rp k sz j (off+o)⟩
   |some (o,_,_),.dp row off=>⟨True,.dp row (off+o)⟩
   |_,_=>⟨False,.any⟩
 |_=>⟨False,.any⟩
def apart(T:TypeId→TI)(ti:TI)(i:Nat)(x:AV):PR:=
 match ti.kind with
 | .struct fs=>
   match fs[i]?,x with
   |some (o,s,t),.agg cs=>⟨o+s≤cs.length∧((T t).kind matches .other)=false∧s=(T t).size,
     if(T t).agg then .agg ((cs.drop o).take s) else cs.getD o .any⟩
   |_,_=>⟨False,.any⟩
 |_=>⟨False,.any⟩
def wH(ti:TI)(hp:List ABlk):AV→PR
 | .ptr k off=>
   (match hp[k]? with
   |some (.cells cs)=>⟨off+ti.size≤cs.length∧(ti.agg=false→ti.size=1)∧(ti.kind matches .other)=false,if ti.agg then .agg ((cs.drop off).take ti.size) else cs.getD off .any⟩
   |_=>⟨False,.any⟩)
 | .rp k sz i off=>
   (match hp[k]? with
   |some (.rows sz' rs)=>⟨sz=sz'∧i<rs.length∧off+ti.size≤sz∧(ti.agg=false→ti.size=1)∧(ti.kind matches .other)=false,
     if ti.agg then .agg ((((rs.getD i []).drop off).take ti.size).map .d) else .d ((rs.getD i []).getD off (.sc undef))⟩
   |some (.bytes l)=>⟨sz=1∧i<(l.map aL).length∧off+ti.size≤sz∧(ti.agg=false→ti.size=1)∧(ti.kind matches .other)=false,
     if ti.agg then .agg (((((l.map aL).getD i []).drop off).take ti.size).map .d) else .d (((l.map aL).getD i []).getD off (.sc undef))⟩
   |some (.cells cs)=>⟨i*sz+off+ti.size≤cs.length∧(ti.agg=false→ti.size=1)∧(ti.kind matches .other)=false,if ti.agg then .agg ((cs.drop (i*sz+off)).take ti.size) else cs.getD (i*sz+off) .any⟩
   |_=>⟨False,.any⟩)
 |.dp row off=>⟨off+ti.size≤row.length∧(ti.agg=false→ti.size=1)∧(ti.kind matches .other)=false,
      if ti.agg then .agg (((row.drop off).take ti.size).map .d) else .d (row.getD off (.sc undef))⟩
 |_=>⟨False,.any⟩
def m8(T:TypeId→TI)(ti:TI)(x y:AV):PR:=
 match y with
 | .d (.int _ i)=>
   (match ti.kind,x with
   |.slice e,.d (.sl sz rows)=>⟨0≤i∧i<rows.length∧(T e).size=sz∧((T e).kind matches .other)=false,.dp (rows.getD i.toNat (T e).zero) 0⟩
   |.slice e,.osl k sz off n=>⟨0≤i∧i<n∧(T e).size=sz∧((T e).kind matches .other)=false,.rp k sz (off+i.toNat) 0⟩
   |.array n e,.ptr k off=>⟨0≤i∧i<n∧((T e).kind matches .other)=false,.ptr k (off+i.toNat*(T e).size)⟩
   |_,_=>⟨False,.any⟩)
 |_=>⟨False,.any⟩
def H1(T:TypeId→TI)(ti:TI)(x y:AV):PR:=
 match y with
 | .d (.int _ i)=>
   (match ti.kind,x with
   |.str,.d (.str l)=>⟨0≤i∧i<l.length,.d (.int .u8 (l.getD i.toNat 0).toNat)⟩
   |.array n e,.agg cs=>⟨0≤i∧i<n∧((T e).agg=false→(T e).size=1)∧cs.length=(if(T e).agg then n*(T e).size else n)∧((T e).kind matches .other)=false,if(T e).agg then .agg ((cs.drop (i.toNat*(T e).size)).take (T e).size) else cs.getD i.toNat .any⟩
   |_,_=>⟨False,.any⟩)
 |_=>⟨False,.any⟩
def lW(P:Program)(t:TypeId)(us:List Value):Value:=
 match P.underlying t with
 |some (.struct _)=>.agg us.toArray
 |_=>us.headD undef
section
variable {P:Program} {ρ:List (Option (Nat×Nat))} {ok:Nat→Prop} {w:World}
def pc(ρ:List (Option (Nat×Nat)))(ok:Nat→Prop)(w:World)(xs:List AV)(us:List Value):Prop:=
 us.length=xs.length∧∀(j:Nat) (x:AV) (u:Value),xs[j]?=some x→us[j]?=some u→RepV ρ ok w x u
theorem iK:∀{ks:List TK} {xs ys:List AV},(aH ks xs ys).1→xs.length=ks.length∧ys.length=ks.length
 |[],[],[],_=>⟨rfl,rfl⟩
 | _::ks,_::xs,_::ys,h=>by
   have:=iK (ks:=ks) (xs:=xs) (ys:=ys) h.2;simp[this.1,this.2]
 |[],[],_::_,h=>by simp[aH] at h
 |[],_::_,_,h=>by simp[aH] at h
 |_::_,[],_,h=>by simp[aH] at h
 |_::_,_::_,[],h=>by simp[aH] at h
theorem lS:∀(a b:List TK) (xs ys:List AV),(aH (a++b) xs ys).1→
  (aH a (xs.take a.length) (ys.take a.length)).1∧(aH b (xs.drop a.length) (ys.drop a.length)).1∧
  (aH (a++b) xs ys).2=((aH a (xs.take a.length) (ys.take a.length)).2&&(aH b (xs.drop a.length) (ys.drop a.length)).2)
 |[],b,xs,ys,h=>by simpa[aH] using h
 | k::a,b,x::xs,y::ys,h=>by
   have ih:=lS a b xs ys h.2;refine⟨⟨h.1,ih.1⟩,ih.2.1,?_⟩
   have:=ih.2.2;simp only[SB,aH,RQ,Tl,WN] at this ⊢;rw[this,Bool.and_assoc]
 |_::_,_,[],_,h=>by simp[aH] at h
 |_::_,_,_::_,[],h=>by simp[aH] at h
theorem pc.take{xs:List AV}{us:List Value}(h:pc ρ ok w xs us)(n:Nat):pc ρ ok w (xs.take n) (us.take n):=by
 refine⟨by simp[h.1],fun j x u hx hu=>?_⟩
 by_cases hj:j<n
 ·rw[Tc,RJ hj] at hx hu
  exact h.2 j x u hx hu
 ·rw[Tc,RI hj] at hx
  cases hx
theorem pc.drop{xs:List AV}{us:List Value}(h:pc ρ ok w xs us)(n:Nat):pc ρ ok w (xs.drop n) (us.drop n):=by refine⟨by simp[h.1],fun j x u hx hu=>?_⟩;rw[SM] at hx hu;exact h.2 _ x u hx hu
theorem qv(a b:List UInt8):((⟨a.toArray⟩:ByteArray)==⟨b.toArray⟩)=decide (a=b):=by show((a.toArray:Array UInt8)==b.toArray)=_;rw[Tv];simp
theorem v6{t:TypeId}{n:Nat}(h:P.cellsOf t=n)(hn:n≠0)(w':World):(sizeOf t).run P w'=.ok n w':=by
 unfold Program.cellsOf at h;cases hi:P.info? t with
 |none=>simp[hi] at h;omega
 |some i=>simp[hi] at h;simp[sizeOf,typeInfo,hi,h]
def Cp(n:Nat):TypeDesc→Prop
 |.struct _=>True
 |.array _ _=>False
 |_=>n=1
theorem Ji{us:List Value}{o:Nat}(h:o<us.length):(List.take 1 (List.drop o us)).headD undef=us[o]:=by rw[S7 h];rfl
theorem om{t:TypeId}{d:TypeDesc}(hd:P.underlying t=some d)(ha:Cp (P.cellsOf t) d)(hc:P.cellsOf t≠0)(us:List Value)(o:Nat)(hl:o+P.cellsOf t≤us.length)(w':World) :
  (part t us.toArray o).run P w'=.ok (lW P t ((us.drop o).take (P.cellsOf t))) w':=by
 cases d with
 | struct fs=>
   simp[part,isAgg,R4 hd,v6 rfl hc,lW,hd,List.take_drop]
 |array n e=>exact ha.elim
 | _=>
   simp only[Cp] at ha;have hlt:o<us.length:=by omega
   have hh:=Ji hlt;simp only[lW,hd,ha];rw[hh];simp[part,isAgg,R4 hd,hlt]
theorem py {m:Nat} (ih:∀(t:TypeId) (ks:List TK),iq P m t=some ks→∀(xs ys:List AV) (us vs:List Value),pc ρ ok w xs us→pc ρ ok w ys vs→(aH ks xs ys).1→
   ∀(d:Nat) (w':World),(Op.equalIn (d+m) t (lW P t us) (lW P t vs)).run P w'=.ok (aH ks xs ys).2 w') :
  ∀ (fs:List Field) (o:Nat) (ks:List TK),nw P (iq P m) fs o=some ks→∀(xs ys:List AV) (us vs:List Value),pc ρ ok w xs us→pc ρ ok w ys vs→(aH ks (xs.drop o) (ys.drop o)).1→
    ∀(d:Nat) (w':World),(Op.eqFields (d+m) us.toArray vs.toArray fs).run P w'=.ok (aH ks (xs.drop o) (ys.drop o)).2 w'
 | [],o,ks,h,xs,ys,us,vs,hu,hv,hk,d,w'=>by
   simp[nw] at h;subst h
   have:=iK hk;have e1:xs.drop o=[]:=Sf this.1;have e2:ys.drop o=[]:=Sf this.2;rw[e1,e2];simp[Op.eqFields,aH]
 | f :: fs,o,ks,h,xs,ys,us,vs,hu,hv,hk,d,w'=>by
   simp only[nw] at h;cases h1:iq P m f.type with
   |none=>simp[h1] at h
   | some a=>
     cases h2:nw P (iq P m) fs (o+P.cellsOf f.type) with
     |none=>simp[h1,h2] at h
     | some b=>
       simp only[h1,h2] at h;split at h
       ·rename_i hc
        obtain⟨hn,ho,hl⟩:=hc;injection h with h;subst h;obtain⟨k1,k2,k3⟩:=lS a b _ _ hk;have hlen:=iK hk;rw[SH] at k2 k3;rw[SH] at k2 k3;simp only[RL] at hlen;obtain⟨hl,hpos⟩:=hl;subst ho
        have hxl:f.offset+P.cellsOf f.type≤us.length:=by
         have:=hlen.1;rw[RZ] at this
         have:=hu.1;omega
        have hyl:f.offset+P.cellsOf f.type≤vs.length:=by
         have:=hlen.2;rw[RZ] at this
         have:=hv.1;omega
        have hdesc:∃ dd,P.underlying f.type=some dd∧Cp (P.cellsOf f.type) dd:=by
         cases m with
         |zero=>simp[iq] at h1
         | succ m=>
           simp only[iq] at h1;split at h1
           ·rename_i hu;injection h1 with h1;subst h1;exact⟨_,hu,hl.symm⟩
           ·rename_i hu;injection h1 with h1;subst h1;exact⟨_,hu,hl.symm⟩
           ·rename_i hu;injection h1 with h1;subst h1;exact⟨_,hu,hl.symm⟩
           ·rename_i hu;exact⟨_,hu,Yj⟩
           ·cases h1
        obtain⟨dd,hdd,hdc⟩:=hdesc;have p1:=om hdd hdc (by omega) us f.offset hxl w';have p2:=om hdd hdc (by omega) vs f.offset hyl w';rw[hl] at k1 k2 k3;have q:=ih f.type a h1 _ _ _ _ ((hu.drop f.offset).take (P.cellsOf f.type)) ((hv.drop f.offset).take (P.cellsOf f.type)) k1 d w';have r:=py ih fs (f.offset+P.cellsOf f.type) b h2 xs ys us vs hu hv k2 d w';rw[k3];simp only[Op.eqFields,RJ hn,SS,p1,p2,q,So,Sem.run_ite];cases hb:(aH a (List.take (P.cellsOf f.type) (List.drop f.offset xs)) (List.take (P.cellsOf f.type) (List.drop f.offset ys))).2 with
        |true=>simpa using r
        |false=>simp
       ·cases h
theorem B8{x y:AV}(h:(fQ .bool x y).1):∃ a b,x=.d (.bool a)∧y=.d (.bool b):=by unfold fQ at h;split at h<;>first|contradiction|exact⟨_,_,rfl,rfl⟩|exact h.elim
theorem Cx{x y:AV}(h:(fQ .str x y).1):∃ a b,x=.d (.str a)∧y=.d (.str b):=by unfold fQ at h;split at h<;>first|contradiction|exact⟨_,_,rfl,rfl⟩|exact h.elim
theorem CZ{k:IntKind}{x y:AV}(h:(fQ (.int k) x y).1):∃ a b,x=.d (.int k a)∧y=.d (.int k b):=by
 unfold fQ at h;split at h
 ·rename_i k0 k1 a k2 b e
  injection e with e;obtain⟨rfl,rfl⟩:=h;subst e;exact⟨_,_,rfl,rfl⟩
 all_goals first|contradiction|exact h.elim
theorem tQ{k:TK}{xs ys:List AV}{us vs:List Value}(hu:pc ρ ok w xs us)(hv:pc ρ ok w ys vs)(hk:(aH [k] xs ys).1) :
  ∃ x y u v,xs=[x]∧ys=[y]∧us=[u]∧vs=[v]∧RepV ρ ok w x u∧RepV ρ ok w y v∧(fQ k x y).1∧(aH [k] xs ys).2=(fQ k x y).2:=by
 obtain⟨h1,h2⟩:=iK hk;have h3:=hu.1;have h4:=hv.1
 match xs,ys,us,vs,h1,h2,h3,h4 with
 |[x],[y],[u],[v],_,_,_,_=>exact⟨x,y,u,v,rfl,rfl,rfl,rfl,hu.2 0 x u rfl rfl,hv.2 0 y v rfl rfl,hk.1,by simp[aH]⟩
theorem vy:∀(m:Nat) (t:TypeId) (ks:List TK),iq P m t=some ks→∀(xs ys:List AV) (us vs:List Value),pc ρ ok w xs us→pc ρ ok w ys vs→(aH ks xs ys).1→
   ∀(d:Nat) (w':World),(Op.equalIn (d+m) t (lW P t us) (lW P t vs)).run P w'=.ok (aH ks xs ys).2 w'
 |0,_,_,h,_,_,_,_,_,_,_,_,_=>by simp[iq] at h
 | m + 1,t,ks,h,xs,ys,us,vs,hu,hv,hk,d,w'=>by
   simp only[iq] at h;split at h
   ·rename_i hd
    injection h with h;subst h;obtain⟨x,y,u,v,rfl,rfl,rfl,rfl,hx,hy,hl,e⟩:=tQ hu hv hk;rw[e];obtain⟨a,b,rfl,rfl⟩:=B8 hl;cases hx with|d _ _ hx=>cases hx with|bool _=>
    cases hy with|d _ _ hy=>cases hy with|bool _=>
    simp only[lW,hd,Wx];rw[show d+(m+1)=(d+m)+1 from rfl,run_equalIn_bool' w' (d+m) t a b hd];cases a<;>cases b<;>rfl
   ·rename_i hd
    injection h with h;subst h;obtain⟨x,y,u,v,rfl,rfl,rfl,rfl,hx,hy,hl,e⟩:=tQ hu hv hk;rw[e];obtain⟨a,b,rfl,rfl⟩:=Cx hl;cases hx with|d _ _ hx=>cases hx with|str _=>
    cases hy with|d _ _ hy=>cases hy with|str _=>
    simp only[lW,hd,Wx]
    have:=qv a b;rw[show d+(m+1)=(d+m)+1 from rfl];simp[aW,Op.equalIn,R4 hd,this,fQ]
   ·rename_i k hd
    injection h with h;subst h;obtain⟨x,y,u,v,rfl,rfl,rfl,rfl,hx,hy,hl,e⟩:=tQ hu hv hk;rw[e];obtain⟨a,b,rfl,rfl⟩:=CZ hl;cases hx with|d _ _ hx=>cases hx with|int _ _=>
    cases hy with|d _ _ hy=>cases hy with|int _ _=>
    simp only[lW,hd,Wx];rw[show d+(m+1)=(d+m)+1 from rfl,run_equalIn_int w' (d+m) t _ _ a b hd];simp only[fQ];congr 1
   ·rename_i fs hd
    split at h
    ·cases h
    ·rename_i hst
     have hf:P.fieldsOf t=fs:=by simp[Program.fieldsOf,hd]
     have:=py (P:=P) (ρ:=ρ) (ok:=ok) (w:=w) (m:=m) (fun t ks h=>vy m t ks h) fs.toList 0 ks h xs ys us vs hu hv (by simpa using hk) d w';simp only[lW,hd];rw[show d+(m+1)=(d+m)+1 from rfl,run_equalIn_struct w' (d+m) t _ _ (by rw[hf];exact hd) (by simpa using hst),hf];simpa using this
   ·cases h
end
section
variable {P:Program} {ρ:List (Option (Nat×Nat))} {ok:Nat→Prop} {w:World}
theorem G4(l:List UInt8):(⟨l.toArray⟩:ByteArray).toList=l:=by simp[ByteArray.toList_eq]
theorem lK(l:List UInt8):(⟨l.toArray⟩:ByteArray).size=l.length:=rfl
theorem FN(a b:List UInt8):(⟨a.toArray⟩:ByteArray)++⟨b.toArray⟩=⟨(a++b).toArray⟩:=by apply ByteArray.ext;simp
theorem ji(l:List UInt8)(a b:Nat):(⟨l.toArray⟩:ByteArray).extract a b=⟨((l.drop a).take (b-a)).toArray⟩:=by apply ByteArray.ext;simp[ByteArray.data_extract,V1]
theorem El(a b:Int):(a==b)=decide (a=b):=by
 by_cases h:a=b
 ·subst h;simp
 ·rw[R0 h];simpa using h
theorem sX(a b:List UInt8):(a==b)=decide (a=b):=by
 by_cases h:a=b
 ·subst h;simp
 ·rw[R0 h];simpa using h
theorem Ds(op:BinOp)(t:TypeId)(k k':IntKind)(a b:Int)(h:(tw op k k' a b).ok) :
  ∃ u,RepV ρ ok w (tw op k k' a b).v u∧∀ w',(Go.binOp op t (.int k a) (.int k' b)).run P w'=.ok u w':=by
 cases op<;>simp only[tw] at h ⊢
 case quo=>
  obtain⟨rfl,hb⟩:=h;exact⟨_,.d _ _ (.int _ _),fun w'=>by simp[Go.binOp,Op.intDiv,hb]⟩
 case rem=>
  obtain⟨rfl,hb⟩:=h;exact⟨_,.d _ _ (.int _ _),fun w'=>by simp[Go.binOp,Op.intDiv,hb]⟩
 case shl=>exact⟨_,.d _ _ (.int _ _),fun w'=>by simp only[Go.binOp];rw[shift_shl _ _ _ _ h.1 h.2];rfl⟩
 case shr=>exact⟨_,.d _ _ (.int _ _),fun w'=>by simp only[Go.binOp];rw[shift_shr _ _ _ _ h.1 h.2];rfl⟩
 all_goals subst h
 case eql=>exact⟨_,.d _ _ (.bool _),fun w'=>by simp[Go.binOp,Op.intCmp,El]⟩
 case neq=>exact⟨_,.d _ _ (.bool _),fun w'=>by simp[Go.binOp,Op.intCmp,bne,El]⟩
 case lss=>exact⟨_,.d _ _ (.bool _),fun w'=>by simp[Go.binOp,Op.intCmp]⟩
 case leq=>exact⟨_,.d _ _ (.bool _),fun w'=>by simp[Go.binOp,Op.intCmp]⟩
 case gtr=>exact⟨_,.d _ _ (.bool _),fun w'=>by simp[Go.binOp,Op.intCmp]⟩
 case geq=>exact⟨_,.d _ _ (.bool _),fun w'=>by simp[Go.binOp,Op.intCmp]⟩
 case add=>exact⟨_,.d _ _ (.int _ _),fun w'=>by simp[Go.binOp,Op.intArith]⟩
 case sub=>exact⟨_,.d _ _ (.int _ _),fun w'=>by simp[Go.binOp,Op.intArith]⟩
 case mul=>exact⟨_,.d _ _ (.int _ _),fun w'=>by simp[Go.binOp,Op.intArith]⟩
 case and=>exact⟨_,.d _ _ (.int _ _),fun w'=>by simp[Go.binOp,intBits_and]⟩
 case or=>exact⟨_,.d _ _ (.int _ _),fun w'=>by simp[Go.binOp,intBits_or]⟩
 case xor=>exact⟨_,.d _ _ (.int _ _),fun w'=>by simp[Go.binOp,intBits_xor]⟩
 case andNot=>exact⟨_,.d _ _ (.int _ _),fun w'=>by simp[Go.binOp,intBits_andNot]⟩
theorem NY:IntKind.max .i64=9223372036854775807:=by decide
theorem CV(op:BinOp)(t:TypeId)(a b:List UInt8)(h:(vq op a b).ok) :
  ∃ u,RepV ρ ok w (vq op a b).v u∧∀ w',(Go.binOp op t (aW a) (aW b)).run P w'=.ok u w':=by
 have e:∀ x:List UInt8,(⟨x.toArray⟩:ByteArray).toList=x:=G4;cases op<;>simp only[vq] at h ⊢
 case add=>
  refine⟨_,.d _ _ (.str _),fun w'=>?_⟩;have hs:¬ ((((⟨a.toArray⟩:ByteArray).size+(⟨b.toArray⟩:ByteArray).size:Nat):Int) > IntKind.i64.max):=by rw[NY,lK,lK];omega
  simp only[aW,Go.binOp,Op.stringOp,RI hs,S4,FN]
 case eql=>exact⟨_,.d _ _ (.bool _),fun w'=>by simp[aW,Go.binOp,Op.stringOp,e,sX]⟩
 case neq=>exact⟨_,.d _ _ (.bool _),fun w'=>by simp[aW,Go.binOp,Op.stringOp,e,sX]⟩
 case lss=>exact⟨_,.d _ _ (.bool _),fun w'=>by simp[aW,Go.binOp,Op.stringOp,e,ol]⟩
 case leq=>exact⟨_,.d _ _ (.bool _),fun w'=>by simp[aW,Go.binOp,Op.stringOp,e,ol,sX]⟩
 case gtr=>exact⟨_,.d _ _ (.bool _),fun w'=>by simp[aW,Go.binOp,Op.stringOp,e,ol,sX]⟩
 case geq=>exact⟨_,.d _ _ (.bool _),fun w'=>by simp[aW,Go.binOp,Op.stringOp,e,ol]⟩
theorem pS(t:TypeId)(a b:Bool)(ht:P.underlying t=some .bool)(w':World) :
  (Op.equal t (.bool a) (.bool b)).run P w'=.ok (a==b) w':=by
 have h:∀ d:Nat,(Op.equalIn (d+1) t (.bool a) (.bool b)).run P w'=.ok (a==b) w':=fun d=>by simp[Op.equalIn,R4 ht]
 simp only[Op.equal,Op.maxDepth];exact h 9999
theorem Aj(ti:TI)(op:BinOp)(t:TypeId)(a b:Bool)(ht:ti.kind=.bool→P.underlying t=some .bool)(h:(pz ti op a b).ok) :
  ∃ u,RepV ρ ok w (pz ti op a b).v u∧∀ w',(Go.binOp op t (.bool a) (.bool b)).run P w'=.ok u w':=by
 revert h;unfold pz;split
 ·rename_i hk;intro _;exact⟨_,.d _ _ (.bool _),fun w'=>by simp[Go.binOp,pS t a b (ht hk)]⟩
 ·rename_i hk;intro _;exact⟨_,.d _ _ (.bool _),fun w'=>by simp[Go.binOp,pS t a b (ht hk)]⟩
 ·intro h;exact h.elim
theorem aP{T:TypeId→TI}(hT:ap P T){t:TypeId}(hk:(T t).kind≠.other):TyOk P t (T t):=by have:=hT t;cases e:(T t).kind<;>simp only[e] at this hk<;>first|exact this|exact absurd rfl hk
theorem tv{T:TypeId→TI}(hT:ap P T){t:TypeId}(hk:(T t).kind=.bool):P.underlying t=some .bool:=by obtain⟨d,hd,h⟩:=(aP hT (t:=t) (by rw[hk];simp)).und;rw[hk] at h;rw[hd,h]
theorem gB{T:TypeId→TI}(hT:ap P T){t:TypeId}(hk:(T t).kind=.str):P.underlying t=some .string:=by obtain⟨d,hd,h⟩:=(aP hT (t:=t) (by rw[hk];simp)).und;rw[hk] at h;rw[hd,h]
theorem nl{T:TypeId→TI}(hT:ap P T){t:TypeId}{k:IntKind}(hk:(T t).kind=.int k):P.underlying t=some (.int k):=by obtain⟨d,hd,h⟩:=(aP hT (t:=t) (by rw[hk];simp)).und;rw[hk] at h;rw[hd,h]
theorem aC{T:TypeId→TI}(hT:ap P T){t e:TypeId}(hk:(T t).kind=.slice e):P.underlying t=some (.slice e):=by obtain⟨d,hd,h⟩:=(aP hT (t:=t) (by rw[hk];simp)).und;rw[hk] at h;rw[hd,h]
theorem kE{T:TypeId→TI}(hT:ap P T){t e:TypeId}{n:Nat}(hk:(T t).kind=.array n e):P.underlying t=some (.array n e):=by obtain⟨d,hd,h⟩:=(aP hT (t:=t) (by rw[hk];simp)).und;rw[hk] at h;rw[hd,h]
theorem js{T:TypeId→TI}(hT:ap P T){t:TypeId}{fs:List (Nat×Nat×TypeId)}(hk:(T t).kind=.struct fs) :
  ∃ fields,P.underlying t=some (.struct fields)∧fields.size=fs.length∧ul P fields fs:=by
 obtain⟨d,hd,h⟩:=(aP hT (t:=t) (by rw[hk];simp)).und;rw[hk] at h;obtain⟨fields,rfl,h1,h2⟩:=h;exact⟨fields,hd,h1,h2⟩
theorem KB{T:TypeId→TI}(hT:ap P T){t:TypeId}(hk:(T t).kind≠.other) :
  ∃ i,P.info? t=some i∧i.size=(T t).size∧i.bytes=(T t).bytes:=by
 obtain⟨i,z,h1,h2,h3,_⟩:=(aP hT hk).info;exact⟨i,h1,h2,h3⟩
theorem aO{T:TypeId→TI}(hT:ap P T){t:TypeId}(hk:(T t).kind≠.other)(w':World):(sizeOf t).run P w'=.ok (T t).size w':=by obtain⟨i,h1,h2,_⟩:=KB hT hk;simp[sizeOf,typeInfo,h1,h2]
theorem gX{T:TypeId→TI}(hT:ap P T){t:TypeId}(hk:(T t).kind≠.other)(w':World):(isAgg t).run P w'=.ok (T t).agg w':=by
 obtain⟨d,hd,h⟩:=(aP hT hk).und;cases e:(T t).kind with
 |other=>exact absurd e hk
 | struct fs=>
   rw[e] at h;obtain⟨fields,rfl,_⟩:=h;simp[isAgg,R4 hd,TI.agg,e]
 | func=>
   rw[e] at h;obtain⟨_,_,_,rfl⟩:=h;simp[isAgg,R4 hd,TI.agg,e]
 |_=>rw[e] at h;subst h;simp[isAgg,R4 hd,TI.agg,e]
theorem an{k:TK}(h:(k matches .other)=false):k≠.other:=by intro e;subst e;simp at h
theorem jM{T:TypeId→TI}(hT:ap P T){t e:TypeId}(hk:(T t).kind=.pointer e):P.underlying t=some (.pointer e):=by obtain⟨d,hd,h⟩:=(aP hT (t:=t) (by rw[hk];simp)).und;rw[hk] at h;rw[hd,h]
theorem vi{x:AV}{u:Value}(h:RepV ρ ok w x u){b:Bool}(hb:y5 x=some b):(b=true→u=.pointer none)∧(b=false→∃ a,u=.pointer (some a)):=by
 unfold y5 at hb;split at hb<;>cases hb
 ·cases h with|ptr=>exact⟨(fun h=>by cases h),fun _=>⟨_,rfl⟩⟩
 ·cases h with|rp=>exact⟨(fun h=>by cases h),fun _=>⟨_,rfl⟩⟩
 ·cases h with|dp=>exact⟨(fun h=>by cases h),fun _=>⟨_,rfl⟩⟩
 ·cases h with|d _ _ h=>cases h with|sc _ _=>exact⟨fun _=>rfl,(fun h=>by cases h)⟩
theorem lB{t e:TypeId}(ht:P.underlying t=some (.pointer e))(p:Option Addr)(w':World) :
  (Go.binOp .eql t (.pointer p) (.pointer none)).run P w'=.ok (.bool p.isNone) w'∧(Go.binOp .neq t (.pointer p) (.pointer none)).run P w'=.ok (.bool (!p.isNone)) w':=by
 have h:∀ d:Nat,(Op.equalIn (d+1) t (.pointer p) (.pointer none)).run P w'=.ok p.isNone w':=fun d=>by cases p<;>simp[Op.equalIn,R4 ht]
 have h2:(Op.equal t (.pointer p) (.pointer none)).run P w'=.ok p.isNone w':=h 9999;constructor
 ·simp[Go.binOp,h2]
 ·simp[Go.binOp,h2]
theorem Dy{T:TypeId→TI}(hT:ap P T)(op:BinOp)(t:TypeId)(x y:AV)(ux uy:Value)(hx:RepV ρ ok w x ux)(hy:RepV ρ ok w y uy)(h:(uf (T t) op x y).ok) :
  ∃ u,RepV ρ ok w (uf (T t) op x y).v u∧∀ w',(Go.binOp op t ux uy).run P w'=.ok u w'∧∀ ox oy,(eqGuard op t ox oy ux uy).run P w'=.ok () w':=by
 revert h;unfold uf;split
 ·cases hy with|d _ _ hy=>cases hy with|sc _ _=>
  split
  ·rename_i b e hb hk
   intro _;obtain⟨h1,h2⟩:=vi hx hb;refine⟨_,.d _ _ (.bool _),fun w'=>?_⟩;cases b with
   |true=>rw[h1 rfl];exact⟨(lB (jM hT hk) none w').1,fun ox oy=>by simp[eqGuard]⟩
   |false=>obtain⟨a,e⟩:=h2 rfl;rw[e];exact⟨(lB (jM hT hk) (some a) w').1,fun ox oy=>by simp[eqGuard]⟩
  ·rename_i b e hb hk
   intro _;obtain⟨h1,h2⟩:=vi hx hb;refine⟨_,.d _ _ (.bool _),fun w'=>?_⟩;cases b with
   |true=>rw[h1 rfl];exact⟨(lB (jM hT hk) none w').2,fun ox oy=>by simp[eqGuard]⟩
   |false=>obtain⟨a,e⟩:=h2 rfl;rw[e];exact⟨(lB (jM hT hk) (some a) w').2,fun ox oy=>by simp[eqGuard]⟩
  ·intro h;exact h.elim
 ·intro h;exact h.elim
theorem Lg{T:TypeId→TI}(hT:ap P T)(op:BinOp)(t:TypeId)(x y:AV)(ux uy:Value)(hx:RepV ρ ok w x ux)(hy:RepV ρ ok w y uy)(h:(Ku (T t) op x y).ok) :
  ∃ u,RepV ρ ok w (Ku (T t) op x y).v u∧∀ w',(Go.binOp op t ux uy).run P w'=.ok u w'∧∀ ox oy,(eqGuard op t ox oy ux uy).run P w'=.ok () w':=by
 revert h;unfold Ku;split
 ·intro h
  cases hx with|d _ _ hx=>cases hx with|int k a=>
  cases hy with|d _ _ hy=>cases hy with|int k' b=>
  obtain⟨u,h1,h2⟩:=Ds (P:=P) (ρ:=ρ) (ok:=ok) (w:=w) op t _ _ _ _ h;exact⟨u,h1,fun w'=>⟨h2 w',fun ox oy=>by cases op<;>simp[eqGuard]⟩⟩
 ·intro h
  cases hx with|d _ _ hx=>cases hx with|str a=>
  cases hy with|d _ _ hy=>cases hy with|str b=>
  obtain⟨u,h1,h2⟩:=CV (P:=P) (ρ:=ρ) (ok:=ok) (w:=w) op t _ _ h;exact⟨u,h1,fun w'=>⟨h2 w',fun ox oy=>by cases op<;>simp[eqGuard,aW]⟩⟩
 ·intro h
  cases hx with|d _ _ hx=>cases hx with|bool a=>
  cases hy with|d _ _ hy=>cases hy with|bool b=>
  obtain⟨u,h1,h2⟩:=Aj (P:=P) (ρ:=ρ) (ok:=ok) (w:=w) (T t) op t _ _ (fun hk=>tv hT hk) h;exact⟨u,h1,fun w'=>⟨h2 w',fun ox oy=>by cases op<;>simp[eqGuard]⟩⟩
 ·rename_i xs ys
  cases hx with|agg _ us hul hu1 hur=>
  cases hy with|agg _ vs hvl hv1 hvr=>
  have main:((T t).kind matches .other)=false→(T t).cmp≠[]→(aH (T t).cmp xs ys).1→∀ w',(Op.equalIn 10000 t (.agg us.toArray) (.agg vs.toArray)).run P w'=.ok (aH (T t).cmp xs ys).2 w'∧P.eqGuardType P.depth t=false:=by
   intro hko hne hl w';have hty:TyOk P t (T t):=aP hT (by intro e;rw[e] at hko;simp at hko);obtain⟨h1,h2,fs,hfs⟩:=hty.cmp hne
   have:=vy (P:=P) (ρ:=ρ) (ok:=ok) (w:=w) 8 t _ h1 xs ys us vs ⟨hul,hur⟩ ⟨hvl,hvr⟩ hl 9992 w';simp only[lW,hfs] at this;exact⟨this,h2⟩
  unfold DJ;split
  ·intro⟨hko,hne,hl⟩
   refine⟨_,.d _ _ (.bool _),fun w'=>⟨?_,fun ox oy=>?_⟩⟩
   ·rw[run_eql_struct,(main hko hne hl w').1];rfl
   ·exact run_eqGuard_agg w' .eql t ox oy _ _ (main hko hne hl w').2
  ·intro⟨hko,hne,hl⟩
   refine⟨_,.d _ _ (.bool _),fun w'=>⟨?_,fun ox oy=>?_⟩⟩
   ·rw[run_neq_struct,(main hko hne hl w').1];rfl
   ·exact run_eqGuard_agg w' .neq t ox oy _ _ (main hko hne hl w').2
  ·intro h;exact h.elim
 ·exact Dy hT op t x y ux uy hx hy
theorem Od(op:UnOp)(x:AV)(ux:Value)(hx:RepV ρ ok w x ux)(h:(aun op x).ok) :
  ∃ u,RepV ρ ok w (aun op x).v u∧∀ w',(Op.unary op ux).run P w'=.ok u w':=by
 revert h;unfold aun;split
 ·cases hx with|d _ _ hx=>cases hx with|bool b=>
  split
  ·intro _;exact⟨_,.d _ _ (.bool _),fun w'=>by simp[Op.unary]⟩
  ·intro h;exact h.elim
 ·cases hx with|d _ _ hx=>cases hx with|int k n=>
  split
  ·intro _;exact⟨_,.d _ _ (.int _ _),fun w'=>by simp[Op.unary,Op.intArith]⟩
  ·intro _;exact⟨_,.d _ _ (.int _ _),fun w'=>by simp[Op.unary,intBits_xor]⟩
  ·intro h;exact h.elim
 ·intro h;exact h.elim
theorem FA(c x y:AV)(uc ux uy:Value)(hc:RepV ρ ok w c uc)(hx:RepV ρ ok w x ux)(hy:RepV ρ ok w y uy)(h:(Ak c x y).ok) :
  ∃ u,RepV ρ ok w (Ak c x y).v u∧∀ w',(do pure (Next.value (if ←asBool uc then ux else uy)):Sem Next).run P w'=.ok (.value u) w':=by
 revert h;unfold Ak;split
 ·rename_i c' p q e1 e2 e3
  intro⟨h1,h2,h3⟩;have hc1:=ai hc h1;rw[e1] at hc1;cases hc1 with|d _ _ hc1=>
  cases hc1;cases c' with
  | true=>
    have hx1:=ai hx (h2 rfl);rw[e2] at hx1;exact⟨ux,hx1,fun w'=>by simp[asBool]⟩
  | false=>
    have hy1:=ai hy (h3 rfl);rw[e3] at hy1;exact⟨uy,hy1,fun w'=>by simp[asBool]⟩
 ·intro h;exact h.elim
theorem JF(i:Nat)(x:AV)(ux:Value)(hx:RepV ρ ok w x ux)(h:(IS i x).ok) :
  ∃ u,RepV ρ ok w (IS i x).v u∧∀ w',(Instr.extract ux i).run P w'=.ok u w':=by
 revert h;unfold IS;split
 ·rename_i vs
  intro h;cases hx with|tup _ us hl hr=>
  have hi:i<us.length:=by rw[hl];exact h
  refine⟨us[i],hr i _ _ ?_ (RH hi),fun w'=>by simp[Instr.extract,hi]⟩;simp only[RG,RH h,Option.getD_some]
 ·intro h;exact h.elim
theorem xb{T:TypeId→TI}(hT:ap P T)(src dst:TypeId)(x:AV)(ux:Value)(hsrc:∃ d,P.underlying src=some d)(hx:RepV ρ ok w x ux)(h:(rK (T dst) x).ok) :
  ∃ u,RepV ρ ok w (rK (T dst) x).v u∧∀ w',(Go.convert src dst ux).run P w'=.ok u w':=by
 obtain⟨ds,hs⟩:=hsrc;revert h;unfold rK;split
 ·cases hx with|d _ _ hx=>cases hx with|int k n=>
  split
  ·rename_i k' hk
   intro _;exact⟨_,.d _ _ (.int _ _),fun w'=>by simp[Go.convert,R4 hs,R4 (nl hT hk),Conv.intToInt]⟩
  ·intro h;exact h.elim
 ·cases hx with|d _ _ hx=>cases hx with|str l=>
  split
  ·rename_i hk
   intro _;exact⟨_,.d _ _ (.str _),fun w'=>by simp[Go.convert,R4 hs,R4 (gB hT hk),aW]⟩
  ·intro h;exact h.elim
 ·intro h;exact h.elim
theorem Kv{T:TypeId→TI}(hT:ap P T)(t ty:TypeId)(x:AV)(ux:Value)(hx:RepV ρ ok w x ux)(h:(H2 (T t) x).ok) :
  ∃ u,RepV ρ ok w (H2 (T t) x).v u∧∀ w',(Builtin.len_ #[t] ty #[ux]).run P w'=.ok u w':=by
 revert h;unfold H2;split
 ·cases hx with|d _ _ hx=>cases hx with|str l=>
  split
  ·rename_i hk
   intro _;exact⟨_,.d _ _ (.int _ _),fun w'=>by simp[Builtin.len_,R4 (gB hT hk),aW,lK,goInt]⟩
  ·intro h;exact h.elim
 ·cases hx with|d _ _ hx=>cases hx with|sl sz rows A cap u hcap hsz hc hr=>
  split
  ·rename_i hk
   intro _;exact⟨_,.d _ _ (.int _ _),fun w'=>by simp[Builtin.len_,R4 (aC hT hk),goInt]⟩
  ·intro h;exact h.elim
 ·split
  ·rename_i hk
   intro _;cases hx with
   |osl k sz off n b m cap h hm hn=>exact⟨_,.d _ _ (.int _ _),fun w'=>by simp[Builtin.len_,R4 (aC hT hk),goInt]⟩
   |oslnil k sz A h=>exact⟨_,.d _ _ (.int _ _),fun w'=>by simp[Builtin.len_,R4 (aC hT hk),goInt]⟩
  ·intro h;exact h.elim
 ·cases hx with|d _ _ hx=>
  obtain⟨A,rfl⟩:=jd hx;split
  ·rename_i hk
   intro _;exact⟨_,.d _ _ (.int _ _),fun w'=>by simp[Builtin.len_,R4 (aC hT hk),goInt]⟩
  ·intro h;exact h.elim
 ·intro h;exact h.elim
theorem sY(mx:Bool)(x y:AV)(ux uy:Value)(hx:RepV ρ ok w x ux)(hy:RepV ρ ok w y uy)(h:(amm mx x y).ok) :
  ∃ u,RepV ρ ok w (amm mx x y).v u∧∀ w',(if mx then Builtin.max2 ux uy else Builtin.min2 ux uy:Sem Value).run P w'=.ok u w':=by
 revert h;unfold amm;split
 ·cases hx with|d _ _ hx=>cases hx with|int k a=>
  cases hy with|d _ _ hy=>cases hy with|int k' b=>
  intro h;refine⟨_,.d _ _ (.int _ _),fun w'=>?_⟩;cases mx<;>simp[Builtin.max2,Builtin.min2]
 ·intro h;exact h.elim
end
section
variable {P:Program} {ρ:List (Option (Nat×Nat))} {ok:Nat→Prop} {w:World}
theorem mZ(w':World)(b o:Nat)(us:List Value)(h:∀(j:Nat) (u:Value),us[j]?=some u→w'.cell? ⟨b,o+j,none⟩=some u) :
  (loadCells ⟨b,o,none⟩ us.length).run P w'=.ok us.toArray w':=
 run_loadCells_list (P:=P) w' ⟨b,o,none⟩ us fun j v hj=>by rw[TQ];exact h j v hj
theorem fM{T:TypeId→TI}(hT:ap P T)(t:TypeId)(hk:(T t).kind≠.other)(w':World)(b o:Nat)(us:List Value)(hl:us.length=(T t).size)
  (h1:(T t).agg=false→(T t).size=1) (h:∀(j:Nat) (u:Value),us[j]?=some u→w'.cell? ⟨b,o+j,none⟩=some u) :
  (loadVar t ⟨b,o,none⟩).run P w'=.ok (if(T t).agg then .agg us.toArray else us.getD 0 undef) w':=by
 unfold loadVar;cases e:(T t).agg with
 |true=>simp[gX hT hk,e,aO hT hk,←hl,mZ w' b o us h]
 | false=>
   have hs:=h1 e
   have:∃ u,us=[u]:=by
    match us,(hl.trans hs:us.length=1) with
    |[u],_=>exact⟨u,rfl⟩
   obtain⟨u,rfl⟩:=this;have h0:=h 0 u rfl;rw[S8] at h0;simp[gX hT hk,e,h0]
theorem bc{w:World}{b o:Nat}{us:Array Value}{ty:TypeId}{fz:Nat×Nat}(h:w.heap[b]?=some (.cells us ty fz)):w.cell? ⟨b,o,none⟩=us[o]?:=by simp[World.cell?,h]
theorem ak{α:Type}(l:List α)(o n j:Nat)(x:α)(h:((l.drop o).take n)[j]?=some x):l[o+j]?=some x∧j<n:=by
 rw[Tc] at h;split at h
 ·rename_i hj
  rw[SM] at h;exact⟨h,hj⟩
 ·cases h
theorem aJ{α:Type}(l:List α)(o n:Nat)(h:o+n≤l.length):((l.drop o).take n).length=n:=by simp only[RV,RZ];omega
theorem fq{α:Type}{l:List α}{a n:Nat}{x:α}(h:x∈(l.drop a).take n):x∈l:=SJ (St h)
theorem di{α:Type}(l:List α)(i:Nat)(x:α)(h:i<l.length):l[i]?=some (l.getD i x):=by simp[RG,RH h]
def qb(ρ:List (Option (Nat×Nat)))(ok:Nat→Prop)(w:World)(hp:List ABlk):Prop:=
 (∀(k:Nat) (x:ABlk) (b m:Nat),hp[k]?=some x→ρ[k]?=some (some (b,m))→x≠.dead∧x.isObj=false→∃ us ty fz,w.heap[b]?=some (.cells us ty fz)∧us.size=m∧eo ρ ok w us x)∧∀(k sz:Nat) (rs:List (List DV)),hp[k]?=some (.full sz rs)→ρ[k]?≠some none
theorem og{T:TypeId→TI}(hT:ap P T)(hlt:∀ b,ok b→b<w.heap.size){hp:List ABlk}(hB:qb ρ ok w hp)(t:TypeId){k off b m:Nat}{cs:List AV}(hcs:hp[k]?=some (.cells cs))(hk:ρ[k]?=some (some (b,m)))
  (h1:off+(T t).size≤cs.length) (h2:(T t).agg=false→(T t).size=1) (h3:((T t).kind matches .other)=false) :
  ∃ u,RepV ρ ok w (if(T t).agg then .agg ((cs.drop off).take (T t).size) else cs.getD off .any) u∧∀ w',Below w.heap.size w w'→(Instr.loadAt t (.pointer (some ⟨b,off,none⟩))).run P w'=.ok u w':=by
 obtain⟨us,ty,fz,hw,hm,hone,hl,hr⟩:=hB.1 k _ b m hcs hk (by simp);have hko:=an h3;have hlen:((us.toList.drop off).take (T t).size).length=(T t).size:=aJ _ _ _ (by simp[hl,h1])
 have hrun:∀ w',Below w.heap.size w w'→(loadVar t ⟨b,off,none⟩).run P w'=.ok (if(T t).agg then .agg ((us.toList.drop off).take (T t).size).toArray else((us.toList.drop off).take (T t).size).getD 0 undef) w':=fun w' hb=>
  fM hT t hko w' b off _ hlen h2 fun j u hj=>by have:=(ak _ _ _ _ _ hj).1;rw[bM (hb.block b (a8 hw)),bc hw];simpa using this
 refine⟨_,?_,fun w' hb=>by simp only[Instr.loadAt,Instr.sureAddr,SS,S4,So];exact hrun w' hb⟩;cases e:(T t).agg with
 | true=>
   simp only[S9];refine .agg _ _ (by rw[hlen,aJ _ _ _ h1]) (fun u hu=>hone u (fq hu)) fun j c u hc hu=>?_
   have a1:=(ak _ _ _ _ _ hc).1;have a2:=(ak _ _ _ _ _ hu).1;exact hr _ _ _ a1 (by simpa using a2)
 | false=>
   have hs:=h2 e;have ho:off<us.size:=by omega
   have e1:((us.toList.drop off).take (T t).size).getD 0 undef=us[off]:=by rw[hs];simp[RG,SM,ho]
   simp only[Tb,Tj,e1];exact hr off _ _ (di _ _ _ (by omega)) (by simp[ho])
theorem xq{T:TypeId→TI}(hT:ap P T)(hlt:∀ b,ok b→b<w.heap.size){hp:List ABlk}(hB:qb ρ ok w hp)(t:TypeId)(x:AV)(ux:Value)(hx:RepV ρ ok w x ux)
  (h:(wH (T t) hp x).ok) :
  ∃ u,RepV ρ ok w (wH (T t) hp x).v u∧∀ w',Below w.heap.size w w'→(Instr.loadAt t ux).run P w'=.ok u w':=by
 revert h;unfold wH;split
 ·
  rename_i k off;split
  ·rename_i cs hcs
   intro⟨h1,h2,h3⟩;cases hx with|ptr _ _ b m hk=>
   exact og hT hlt hB t hcs hk h1 h2 h3
  ·intro h;exact h.elim
 ·
  rename_i k sz i off;split
  ·rename_i sz' rs hcs
   intro⟨h0,hi,h1,h2,h3⟩;subst h0;cases hx with|rp _ _ _ _ b m hk=>
   obtain⟨us,ty,fz,hw,hm,hone,hsz,hl,hr⟩:=hB.1 k _ b m hcs hk (by simp);have hko:=an h3;have hrow:=di rs i [] hi;have hrl:(rs.getD i []).length=sz:=hsz _ (Sl hrow);have hfit:i*sz+off+(T t).size≤us.size:=by have:(i+1)*sz≤rs.length*sz:=Sc _ hi;rw[Sz] at this;omega
   have hlen:((us.toList.drop (i*sz+off)).take (T t).size).length=(T t).size:=aJ _ _ _ (by simpa using hfit)
   have hrun:∀ w',Below w.heap.size w w'→(loadVar t ⟨b,i*sz+off,none⟩).run P w'=.ok (if(T t).agg then .agg ((us.toList.drop (i*sz+off)).take (T t).size).toArray else((us.toList.drop (i*sz+off)).take (T t).size).getD 0 undef) w':=fun w' hb=>
    fM hT t hko w' b (i*sz+off) _ hlen h2 fun j u hj=>by have:=(ak _ _ _ _ _ hj).1;rw[bM (hb.block b (a8 hw)),bc hw];simpa using this
   refine⟨_,?_,fun w' hb=>by simp only[Instr.loadAt,Instr.sureAddr,SS,S4,So];exact hrun w' hb⟩;cases e:(T t).agg with
   | true=>
     simp only[S9];refine .agg _ _ (by rw[hlen,RO,aJ _ _ _ (by rw[hrl];exact h1)]) (fun u hu=>hone u (fq hu)) fun j c u hc hu=>?_
     rw[RS] at hc;obtain⟨c',hc',rfl⟩:=RY.1 hc;have a1:=(ak _ _ _ _ _ hc').1;have a2:=(ak _ _ _ _ _ hu).1;exact .d _ _ (hr i _ hrow (off+j) _ _ a1 (by simpa[SX] using a2))
   | false=>
     have hs:=h2 e;have ho:i*sz+off<us.size:=by omega
     have e1:((us.toList.drop (i*sz+off)).take (T t).size).getD 0 undef=us[i*sz+off]:=by rw[hs];simp[RG,SM,ho]
     simp only[Tb,Tj,e1];exact .d _ _ (hr i _ hrow off _ _ (di _ _ _ (by omega)) (by simp[ho]))
  ·rename_i l hcs
   generalize hrs:l.map aL=rs at *
   intro⟨h0,hi,h1,h2,h3⟩;cases hx with|rp _ _ _ _ b m hk=>
   obtain⟨us,ty,fz,hw,hm,hone,hsz,hl,hr⟩:=hB.1 k _ b m hcs hk (by simp);rw[hrs] at hsz hl hr;rw[←h0] at hsz hl hr;have hko:=an h3;have hrow:=di rs i [] hi;have hrl:(rs.getD i []).length=sz:=hsz _ (Sl hrow);have hfit:i*sz+off+(T t).size≤us.size:=by have:(i+1)*sz≤rs.length*sz:=Sc _ hi;rw[Sz] at this;omega
   have hlen:((us.toList.drop (i*sz+off)).take (T t).size).length=(T t).size:=aJ _ _ _ (by simpa using hfit)
   have hrun:∀ w',Below w.heap.size w w'→(loadVar t ⟨b,i*sz+off,none⟩).run P w'=.ok (if(T t).agg then .agg ((us.toList.drop (i*sz+off)).take (T t).size).toArray else((us.toList.drop (i*sz+off)).take (T t).size).getD 0 undef) w':=fun w' hb=>
    fM hT t hko w' b (i*sz+off) _ hlen h2 fun j u hj=>by have:=(ak _ _ _ _ _ hj).1;rw[bM (hb.block b (a8 hw)),bc hw];simpa using this
   refine⟨_,?_,fun w' hb=>by simp only[Instr.loadAt,Instr.sureAddr,SS,S4,So];exact hrun w' hb⟩;cases e:(T t).agg with
   | true=>
     simp only[S9];refine .agg _ _ (by rw[hlen,RO,aJ _ _ _ (by rw[hrl];exact h1)]) (fun u hu=>hone u (fq hu)) fun j c u hc hu=>?_
     rw[RS] at hc;obtain⟨c',hc',rfl⟩:=RY.1 hc;have a1:=(ak _ _ _ _ _ hc').1;have a2:=(ak _ _ _ _ _ hu).1;exact .d _ _ (hr i _ hrow (off+j) _ _ a1 (by simpa[SX] using a2))
   | false=>
     have hs:=h2 e;have ho:i*sz+off<us.size:=by omega
     have e1:((us.toList.drop (i*sz+off)).take (T t).size).getD 0 undef=us[i*sz+off]:=by rw[hs];simp[RG,SM,ho]
     simp only[Tb,Tj,e1];exact .d _ _ (hr i _ hrow off _ _ (di _ _ _ (by omega)) (by simp[ho]))
  ·rename_i cs hcs
   intro⟨h1,h2,h3⟩;cases hx with|rp _ _ _ _ b m hk=>
   exact og hT hlt hB t hcs hk h1 h2 h3
  ·intro h;exact h.elim
 ·rename_i row off
  intro⟨h1,h2,h3⟩;cases hx with|dp _ _ b o u hb hc hr=>
  have hko:=an h3;have hlen:(((List.range row.length).map u |>.drop off).take (T t).size).length=(T t).size:=aJ _ _ _ (by simpa using h1);have hcell:∀ j v,(((List.range row.length).map u |>.drop off).take (T t).size)[j]?=some v→v=u (off+j)∧off+j<row.length:=fun j v hj=>by have:=(ak _ _ _ _ _ hj).1;rw[RS] at this;obtain⟨q,hq,rfl⟩:=RY.1 this;obtain⟨hq1,hq2⟩:=RM.1 hq;simp at hq1 hq2;exact⟨by rw[←hq2],hq1⟩
  have hrun:∀ w',Below w.heap.size w w'→(loadVar t ⟨b,o+off,none⟩).run P w'=.ok (if(T t).agg then .agg (((List.range row.length).map u |>.drop off).take (T t).size).toArray else(((List.range row.length).map u |>.drop off).take (T t).size).getD 0 undef) w':=fun w' hbl=>
   fM hT t hko w' b (o+off) _ hlen h2 fun j v hj=>by obtain⟨rfl,hjl⟩:=hcell j v hj;rw[bM (hbl.block b (hlt b hb)),SX];exact hc (off+j) _ (RH hjl)
  refine⟨_,?_,fun w' hbl=>by simp only[Instr.loadAt,Instr.sureAddr,SS,S4,So];exact hrun w' hbl⟩;cases e:(T t).agg with
  | true=>
    simp only[S9];refine .agg _ _ (by rw[hlen,RO,aJ _ _ _ h1]) (fun v hv=>?_) fun j c v hcj hu=>?_
    ·obtain⟨j,hj⟩:=UT.1 hv
     obtain⟨rfl,hjl⟩:=hcell j v hj;exact(hr (off+j) _ (RH hjl)).one
    rw[RS] at hcj;obtain⟨c',hc',rfl⟩:=RY.1 hcj;have a1:=(ak _ _ _ _ _ hc').1;obtain⟨rfl,_⟩:=hcell j v hu;exact .d _ _ (hr _ _ a1)
  | false=>
    have hs:=h2 e;have ho:off<row.length:=by omega
    have e1:(((List.range row.length).map u |>.drop off).take (T t).size).getD 0 undef=u off:=by rw[hs];simp[RG,SM,ho]
    simp only[Tb,Tj,e1];exact .d _ _ (hr off _ (di _ _ _ ho))
 ·intro h;exact h.elim
theorem jp{b o:Nat}{f:Field}{i:TypeInfo}(hi:P.info? f.type=some i)(hs:i.size≠0)(w':World) :
  (fieldPlace ⟨b,o,none⟩ f).run P w'=.ok ⟨b,o+f.offset,none⟩ w':=by
 simp[fieldPlace,sizeOf,typeInfo,hi,hs,TQ]
theorem I4{T:TypeId→TI}(hT:ap P T)(t:TypeId)(i:Nat)(x:AV)(ux:Value)(hx:RepV ρ ok w x ux)(h:(Lj (T t) i x).ok) :
  ∃ u,RepV ρ ok w (Lj (T t) i x).v u∧∀ w',(Instr.fieldAt t ux i).run P w'=.ok u w':=by
 revert h;unfold Lj;split
 ·rename_i fs hk
  obtain⟨fields,hu,hfs,hf⟩:=js hT hk;split
  ·rename_i o s ft k off hi
   intro _;obtain⟨f,hf1,hf2,hf3,hs,j,hj1,hj2⟩:=hf i o s ft hi;cases hx with|ptr _ _ b m hk=>
   exact⟨_,.ptr k (off+o) b m hk,fun w'=>by simp[Instr.fieldAt,R4 hu,hf1,Instr.sureAddr,jp (hf3▸hj1) (hj2▸hs),hf2]⟩
  ·rename_i o s ft k sz j off hi
   intro _;obtain⟨f,hf1,hf2,hf3,hs,q,hj1,hj2⟩:=hf i o s ft hi;cases hx with|rp _ _ _ _ b m hk=>
   exact⟨_,.rp k sz j (off+o) b m hk,fun w'=>by simp[Instr.fieldAt,R4 hu,hf1,Instr.sureAddr,jp (hf3▸hj1) (hj2▸hs),hf2,SX]⟩
  ·rename_i o s ft row off hi
   intro _;obtain⟨f,hf1,hf2,hf3,hs,j,hj1,hj2⟩:=hf i o s ft hi;cases hx with|dp _ _ b o' u hb hc hr=>
   exact⟨_,.dp row (off+o) b o' u hb hc hr,fun w'=>by simp[Instr.fieldAt,R4 hu,hf1,Instr.sureAddr,jp (hf3▸hj1) (hj2▸hs),hf2,SX]⟩
  ·intro h;exact h.elim
 ·intro h;exact h.elim
theorem ut{T:TypeId→TI}(hT:ap P T)(t:TypeId)(hk:(T t).kind≠.other)(us:List Value)(o:Nat)(cs:List AV)(hl:us.length=cs.length)(hfit:o+(T t).size≤cs.length)
  (h1:(T t).agg=false→(T t).size=1) (hone:∀ u,u∈us→u.oneCell'=true)
  (hr:∀(j:Nat) (c:AV) (u:Value),cs[j]?=some c→us[j]?=some u→RepV ρ ok w c u) :
  ∃ u,RepV ρ ok w (if(T t).agg then .agg ((cs.drop o).take (T t).size) else cs.getD o .any) u∧∀ w',(part t us.toArray o).run P w'=.ok u w':=by
 cases e:(T t).agg with
 | true=>
   refine⟨.agg ((us.drop o).take (T t).size).toArray,?_,fun w'=>?_⟩
   ·simp only[S9]
    refine .agg _ _ (by rw[aJ _ _ _ (by omega),aJ _ _ _ (by omega)]) (fun u hu=>hone u (fq hu)) fun j c u hc hu=>?_
    exact hr _ _ _ (ak _ _ _ _ _ hc).1 (ak _ _ _ _ _ hu).1
   ·simp[part,gX hT hk,e,aO hT hk,V1]
 | false=>
   have hs:=h1 e;have ho:o<us.length:=by omega
   refine⟨us[o],?_,fun w'=>?_⟩
   ·simp only[Tb,Tj]
    exact hr o _ _ (di _ _ _ (by omega)) (RH ho)
   ·simp[part,gX hT hk,e,ho]
theorem GU{T:TypeId→TI}(hT:ap P T)(t:TypeId)(i:Nat)(x:AV)(ux:Value)(hx:RepV ρ ok w x ux)(h:(apart T (T t) i x).ok)
  (h1:∀ t,(T t).kind≠.other→(T t).agg=false→(T t).size=1) :
  ∃ u,RepV ρ ok w (apart T (T t) i x).v u∧∀ w',(Instr.field t ux i).run P w'=.ok u w':=by
 revert h;unfold apart;split
 ·rename_i fs hk
  obtain⟨fields,hu,hfs,hf⟩:=js hT hk;split
  ·rename_i o s ft cs hi
   intro⟨hfit,hko,hst⟩;have hko:=an hko;obtain⟨f,hf1,hf2,hf3,hs,j,hj1,hj2⟩:=hf i o s ft hi;cases hx with|agg _ us hl hone hr=>
   subst hst;obtain⟨u,hu1,hu2⟩:=ut hT ft hko us o cs hl hfit (h1 ft hko) hone hr;exact⟨u,hu1,fun w'=>by simp[Instr.field,R4 hu,hf1,asAgg,hf2,hf3,hu2]⟩
  ·intro h;exact h.elim
 ·intro h;exact h.elim
theorem yD{T:TypeId→TI}(hT:ap P T)(t:TypeId)(x y:AV)(ux uy:Value)(hx:RepV ρ ok w x ux)(hy:RepV ρ ok w y uy)(h:(m8 T (T t) x y).ok) :
  ∃ u,RepV ρ ok w (m8 T (T t) x y).v u∧∀ w',(Instr.indexAt t ux uy).run P w'=.ok u w':=by
 revert h;unfold m8;split
 ·rename_i kk i
  cases hy with|d _ _ hy=>cases hy with|int _ _=>
  split
  ·rename_i e sz rows hk
   intro⟨h0,hi,hs,hko⟩;have hko:=an hko;cases hx with|d _ _ hx=>cases hx with|sl _ _ A cap u hcap hsz hc hr=>
   have hi':i.toNat<rows.length:=by omega
   obtain⟨b,o,rfl,hb,hcell⟩:=hc (by omega);have hrow:=di rows i.toNat (T e).zero hi';refine⟨.pointer (some ⟨b,o+i.toNat*sz+0,none⟩),.dp _ 0 b (o+i.toNat*sz) (u i.toNat) hb (fun j c hj=>?_) (fun j c hj=>hr _ _ hrow j c hj),fun w'=>?_⟩
   ·have:=hcell _ _ hrow j c hj
    rwa[SX]
   ·simp[Instr.indexAt,asIntOf,R4 (aC hT hk),h0,hi,aO hT hko,hs,TQ]
  ·rename_i e k sz off n hk
   intro⟨h0,hi,hs,hko⟩;have hko:=an hko;cases hx with
   |oslnil _ _ _ h=>simp at hi;omega
   |osl _ _ _ _ b m cap hkk hm hn=>
   refine⟨.pointer (some ⟨b,(off+i.toNat)*sz+0,none⟩),.rp k sz _ 0 b m hkk,fun w'=>?_⟩;simp[Instr.indexAt,asIntOf,R4 (aC hT hk),h0,hi,aO hT hko,hs,TQ,Sz]
  ·rename_i n e k off hk
   intro⟨h0,hi,hko⟩;have hko:=an hko;cases hx with|ptr _ _ b m hkk=>
   refine⟨_,.ptr k (off+i.toNat*(T e).size) b m hkk,fun w'=>?_⟩;simp[Instr.indexAt,asIntOf,R4 (kE hT hk),h0,hi,aO hT hko,Instr.sureAddr,TQ]
  ·intro h;exact h.elim
 ·intro h;exact h.elim
theorem HV{T:TypeId→TI}(hT:ap P T)(t:TypeId)(x y:AV)(ux uy:Value)(hx:RepV ρ ok w x ux)(hy:RepV ρ ok w y uy)(h:(H1 T (T t) x y).ok) :
  ∃ u,RepV ρ ok w (H1 T (T t) x y).v u∧∀ w',(Instr.index t ux uy).run P w'=.ok u w':=by
 revert h;unfold H1;split
 ·rename_i kk i
  cases hy with|d _ _ hy=>cases hy with|int _ _=>
  split
  ·rename_i l hk
   intro⟨h0,hi⟩;cases hx with|d _ _ hx=>cases hx with|str _=>
   have hi':i.toNat<l.length:=by omega
   have e1:(⟨l.toArray⟩:ByteArray)[i.toNat]?=some l[i.toNat]:=by rw[getElem?_pos _ _ (by rw[lK];exact hi')];rfl
   refine⟨_,.d _ _ (.int _ _),fun w'=>?_⟩;simp[Instr.index,asIntOf,R4 (gB hT hk),h0,aW,e1,RG,RH hi']
  ·rename_i n e cs hk
   intro⟨h0,hi,h1,hl',hko⟩;have hko:=an hko;cases hx with|agg _ us hl hone hr=>
   have hi':i.toNat<n:=by omega
   cases ha:(T e).agg with
   | true=>
     rw[ha] at hl';simp only[S9] at hl';have hfit:i.toNat*(T e).size+(T e).size≤cs.length:=by rw[hl',←Nat.succ_mul];exact Sc _ hi'
     obtain⟨u,hu1,hu2⟩:=ut hT e hko us (i.toNat*(T e).size) cs hl hfit h1 hone hr;rw[ha] at hu1;simp only[S9] at hu1 ⊢;exact⟨u,hu1,fun w'=>by simp[Instr.index,asIntOf,R4 (kE hT hk),h0,hi,aO hT hko,hu2]⟩
   | false=>
     have hs:=h1 ha;rw[ha] at hl';simp only[Tb,Tj] at hl';obtain⟨u,hu1,hu2⟩:=ut hT e hko us i.toNat cs hl (by omega) (fun _=>hs) hone hr;rw[ha] at hu1;simp only[Tb,Tj] at hu1 ⊢;exact⟨u,hu1,fun w'=>by simp[Instr.index,asIntOf,R4 (kE hT hk),h0,hi,aO hT hko,hs,hu2]⟩
  ·intro h;exact h.elim
 ·intro h;exact h.elim
end
def bq(d:Int):Option AV→Int
 |some (.d (.int _ i))=>i
 |_=>d
def er:Option AV→Prop
 |none=>True
 |some (.d (.int _ _))=>True
 |_=>False
def KQ(l:List UInt8)(lo hi mx:Option AV)(a b:Int):PR:=
 ⟨mx=none∧er lo∧er hi∧0≤a∧a≤b∧b≤l.length,.d (.str ((l.drop a.toNat).take (b.toNat-a.toNat)))⟩
def Ix(te:TI)(sz:Nat)(rows:List (List DV))(lo hi mx:Option AV)(a b m:Int):PR:=
 ⟨er lo∧er hi∧er mx∧(mx=none∨hi≠none)∧0≤a∧a≤b∧b≤m∧m≤rows.length∧te.size=sz∧(te.kind matches .other)=false,if mx.isSome=true∧m=0 then .d (.sc (.slice none 0 0)) else .d (.sl sz ((rows.drop a.toNat).take (b.toNat-a.toNat)))⟩
def tA(te:TI)(k sz off n:Nat)(lo hi mx:Option AV)(a b m:Int):PR:=
 ⟨er lo∧er hi∧er mx∧(mx=none∨hi≠none)∧0≤a∧a≤b∧b≤m∧m≤n∧te.size=sz∧(te.kind matches .other)=false,
   if mx.isSome=true then .any else if a.toNat=0 then .osl k sz off b.toNat else if a.toNat<m.toNat then .osl k sz (off+a.toNat) (b.toNat-a.toNat) else .d (.sl sz [])⟩
def sU(te:TI)(k sz off N:Nat)(lo hi mx:Option AV)(a b m:Int):PR:=
 ⟨er lo∧er hi∧er mx∧(mx=none∨hi≠none)∧0≤a∧a≤b∧b≤m∧m≤(N:Int)-off∧off≤N∧0<sz∧te.size=sz∧(te.kind matches .other)=false,
   if mx.isSome=true then .any else if a.toNat=0 then .osl k sz off b.toNat else if a.toNat<N-off then .osl k sz (off+a.toNat) (b.toNat-a.toNat) else .d (.sl sz [])⟩
def o9(te:TI)(hp:List ABlk)(k sz off n:Nat)(lo hi mx:Option AV):PR:=
 match hp[k]? with
 |some (.full sz' rs)=>⟨sz=sz'∧(sU te k sz off rs.length lo hi mx (bq 0 lo) (bq n hi) (bq ((rs.length:Int)-off) mx)).ok,(sU te k sz off rs.length lo hi mx (bq 0 lo) (bq n hi) (bq ((rs.length:Int)-off) mx)).v⟩
 |_=>tA te k sz off n lo hi mx (bq 0 lo) (bq n hi) (bq n mx)
def C8(te:TI)(n k:Nat)(blk:Option ABlk)(lo hi mx:Option AV)(a b:Int):PR:=
 match blk with
 |some (.cells cs)=>⟨mx=none∧er lo∧er hi∧0≤a∧a≤b∧b≤n∧a<n∧cs.length=n*te.size∧(te.kind matches .other)=false,.osl k te.size a.toNat (b.toNat-a.toNat)⟩
 |_=>⟨False,.any⟩
def ru(T:TypeId→TI)(ti:TI)(hp:List ABlk)(x:AV)(lo hi mx:Option AV):PR:=
 match ti.kind,x with
 |.str,.d (.str l)=>KQ l lo hi mx (bq 0 lo) (bq l.length hi)
 |.slice e,.d (.sl sz rows)=>Ix (T e) sz rows lo hi mx (bq 0 lo) (bq rows.length hi) (bq rows.length mx)
 |.slice e,.osl k sz off n=>o9 (T e) hp k sz off n lo hi mx
 |.array n e,.ptr k 0=>C8 (T e) n k hp[k]? lo hi mx (bq 0 lo) (bq n hi)
 |_,_=>⟨False,.any⟩
def acells:AV→List AV
 |.agg cs=>cs
 |v=>[v]
def oe:AV→Bool
 |.tup _=>true
 |.gd _ _=>true
 |.any=>true
 |_=>false
def gz(place:Nat→Option (Nat×Nat)):List (Nat×AV)→List AV→Prop×List AV
 |[],cs=>(True,cs)
 | (i,v)::rest,cs=>
   match place i with
   |none=>(False,cs)
   | some (off,size)=>
     let r:=gz place rest (cs.take off++acells v++cs.drop (off+(acells v).length))
     ((acells v).length=size∧off+(acells v).length≤cs.length∧(oe v=false)∧r.1,r.2)
def qx(T:TypeId→TI)(ti:TI)(parts:List (Nat×AV)):PR:=
 match ti.kind with
 | .struct fs=>
   let r:=gz (fun i=>(fs[i]?).map fun f=>(f.1,f.2.1)) parts (ti.zero.map .d)
   ⟨r.1,.agg r.2⟩
 | .array _ e=>
   let r:=gz (fun i=>some (i*(T e).size,(T e).size)) parts (ti.zero.map .d)
   ⟨r.1∧((T e).kind matches .other)=false,.agg r.2⟩
 |_=>⟨False,.any⟩
section
variable {P:Program} {ρ:List (Option (Nat×Nat))} {ok:Nat→Prop} {w:World}
def BU(ρ:List (Option (Nat×Nat)))(ok:Nat→Prop)(w:World):Option AV→Option Value→Prop
 |none,none=>True
 |some x,some u=>RepV ρ ok w x u
 |_,_=>False
theorem dW{y:Nat}{code:BoundsCode}{k:IntKind}{i:Int}(h:0≤i∧i≤y)(w':World):(Instr.sliceBound (.int k i) y code).run P w'=.ok i.toNat w':=by simp[Instr.sliceBound,asIntOf,h]
theorem fj{x:Option AV}{u:Option Value}(h:BU ρ ok w x u)(hk:er x):(x=none∧u=none)∨∃ k i,x=some (.d (.int k i))∧u=some (.int k i):=by
 match x,u,h with
 |none,none,_=>exact .inl ⟨rfl,rfl⟩
 | some x,some u,h=>
   right;unfold er at hk;split at hk
   ·rename_i e;cases e
   ·rename_i k i e
    injection e with e;subst e;cases h with|d _ _ h=>cases h with|int k i=>exact⟨k,i,rfl,rfl⟩
   ·exact hk.elim
theorem dz{isSlice:Bool}{len cap:Nat}{lo hi mx:Option AV}{ulo uhi umx:Option Value}(h1:BU ρ ok w lo ulo)(h2:BU ρ ok w hi uhi)(h3:BU ρ ok w mx umx)
  (k1:er lo) (k2:er hi) (k3:er mx) (hm:mx=none∨hi≠none) (dm:Int) (hdm:mx=none→dm=cap) (hm2:bq dm mx≤cap)
  (h0:0≤bq 0 lo) (hab:bq 0 lo≤bq len hi) (hbm:bq len hi≤bq dm mx) (w':World) :
  (Instr.sliceBounds isSlice len cap ulo uhi umx).run P w'=.ok ((bq 0 lo).toNat,(bq len hi).toNat,(bq dm mx).toNat) w':=by
 rcases fj h3 k3 with⟨rfl,rfl⟩|⟨km,im,rfl,rfl⟩
 ·have:=hdm rfl
  subst this;rcases fj h2 k2 with⟨rfl,rfl⟩|⟨kh,ih,rfl,rfl⟩
  ·rcases fj h1 k1 with⟨rfl,rfl⟩|⟨kl,il,rfl,rfl⟩
   ·simp[Instr.sliceBounds,bq]
   ·simp only[bq] at *
    simp[Instr.sliceBounds,dW (P:=P) (w':=w') (i:=il) (y:=len) ⟨h0,hab⟩]
  ·simp only[bq] at hbm hab
   have hh:=dW (P:=P) (w':=w') (k:=kh) (i:=ih) (y:=cap) (code:=if isSlice then .sliceAcap else .sliceAlen) ⟨Ud h0 hab,hbm⟩;have ec:((ih.toNat:Nat):Int)=ih:=VI (Ud h0 hab);rcases fj h1 k1 with⟨rfl,rfl⟩|⟨kl,il,rfl,rfl⟩
   ·simp[Instr.sliceBounds,bq,hh]
   ·simp only[bq] at *
    simp[Instr.sliceBounds,hh,dW (P:=P) (w':=w') (i:=il) (y:=ih.toNat) ⟨h0,by rw[ec];exact hab⟩]
 ·rcases fj h2 k2 with⟨rfl,rfl⟩|⟨kh,ih,rfl,rfl⟩
  ·rcases hm with hm|hm
   ·cases hm
   ·exact absurd rfl hm
  ·simp only[bq] at hbm hab hm2
   have hm':=dW (P:=P) (w':=w') (k:=km) (i:=im) (y:=cap) (code:=if isSlice then .slice3Acap else .slice3Alen) ⟨Ud (Ud h0 hab) hbm,hm2⟩;have em:((im.toNat:Nat):Int)=im:=VI (Ud (Ud h0 hab) hbm);have hh:=dW (P:=P) (w':=w') (k:=kh) (i:=ih) (y:=im.toNat) (code:=.slice3B) ⟨Ud h0 hab,by rw[em];exact hbm⟩;have ec:((ih.toNat:Nat):Int)=ih:=VI (Ud h0 hab);rcases fj h1 k1 with⟨rfl,rfl⟩|⟨kl,il,rfl,rfl⟩
   ·simp[Instr.sliceBounds,bq,hh,hm']
   ·simp only[bq] at *
    simp[Instr.sliceBounds,hh,hm',dW (P:=P) (w':=w') (i:=il) (y:=ih.toNat) ⟨h0,by rw[ec];exact hab⟩]
theorem Dw{T:TypeId→TI}(hT:ap P T){hp:List ABlk}(hB:qb ρ ok w hp)(t:TypeId)(x:AV)(ux:Value)(lo hi mx:Option AV)(ulo uhi umx:Option Value)
  (hx:RepV ρ ok w x ux) (h1:BU ρ ok w lo ulo) (h2:BU ρ ok w hi uhi) (h3:BU ρ ok w mx umx) (h:(ru T (T t) hp x lo hi mx).ok) :
  ∃ u,RepV ρ ok w (ru T (T t) hp x lo hi mx).v u∧∀ w',(Instr.sliceAt t ux ulo uhi umx).run P w'=.ok u w':=by
 revert h;unfold ru;split
 ·rename_i l hk
  intro⟨hmx,k1,k2,h0,hab,hb⟩;subst hmx;cases hx with|d _ _ hx=>cases hx with|str _=>
  refine⟨_,.d _ _ (.str _),fun w'=>?_⟩;have hs:=dz (P:=P) (isSlice:=false) (len:=l.length) (cap:=l.length) h1 h2 h3 k1 k2 Yj (.inl rfl) l.length (fun _=>rfl) (by simp[bq]) h0 hab (by simpa[bq] using hb) w';cases umx with
  |some _=>exact h3.elim
  | none=>
    simp[Instr.sliceAt,Instr.slice,R4 (gB hT hk),aW,lK,hs,ji]
 ·rename_i e sz rows hk
  intro⟨k1,k2,k3,hm,h0,hab,hbm,hmr,hs,hko⟩;have hko:=an hko;cases hx with|d _ _ hx=>cases hx with|sl _ _ A cap u hcap hsz hc hr=>
  have hmc:∃ dm,(mx=none→dm=(cap:Int))∧bq dm mx≤cap∧bq rows.length hi≤bq dm mx:=by
   rcases fj h3 k3 with⟨rfl,rfl⟩|⟨km,im,rfl,rfl⟩
   ·refine⟨cap,fun _=>rfl,SP _,?_⟩
    simp only[bq] at *
    omega
   ·refine⟨0,(fun hh=>by cases hh),?_,hbm⟩
    simp only[bq] at *
    omega
  obtain⟨dm,hdm1,hdm2,hdm3⟩:=hmc;have hb:=fun w'=>dz (P:=P) (isSlice:=true) (len:=rows.length) (cap:=cap) h1 h2 h3 k1 k2 k3 hm dm hdm1 hdm2 h0 hab hdm3 w'
  have hmn:mx.isSome=true→bq dm mx=bq rows.length mx:=by
   rcases fj h3 k3 with⟨rfl,rfl⟩|⟨km,im,rfl,rfl⟩
   ·intro h;cases h
   ·intro _;rfl
  generalize bq 0 lo=a at *
  generalize bq rows.length hi=b at *
  generalize bq rows.length mx=mn at *
  generalize bq dm mx=m at *
  have hlen:((rows.drop a.toNat).take (b.toNat-a.toNat)).length=b.toNat-a.toNat:=aJ _ _ _ (by omega);refine⟨.slice (if m.toNat=a.toNat then A else A.map (·.add (a.toNat*sz))) (b.toNat-a.toNat) (m.toNat-a.toNat),?_,fun w'=>?_⟩
  ·simp only[Ix]
   split
   ·rename_i h00
    have e1:=h00.2;have e3:m=mn:=hmn h00.1;have ea:a.toNat=0:=by omega
    have eb:b.toNat=0:=by omega
    have em:m.toNat=0:=by omega
    rw[ea,eb,em];exact .d _ _ (.sc0 _)
   ·generalize hL:(rows.drop a.toNat).take (b.toNat-a.toNat)=L at hlen ⊢
    rw[←hlen];refine .d _ _ (.sl sz L _ _ (fun i j=>u (a.toNat+i) j) (by rw[hlen];omega) (fun r hr'=>hsz r (by subst hL;exact fq hr')) (fun hp=>?_) fun i r hi' j c hj=>?_)
    ·rw[hlen] at hp
     obtain⟨bb,o,rfl,hbb,hcell⟩:=hc (by omega);refine⟨bb,o+a.toNat*sz,?_,hbb,fun i r hi' j c hj=>?_⟩
     ·rw[RI (by omega)];simp[TQ]
     ·subst hL
      have:=hcell _ r (ak _ _ _ _ _ hi').1 j c hj;rw[Sz] at this;rw[←this];congr 2;omega
    ·subst hL;exact hr _ r (ak _ _ _ _ _ hi').1 j c hj
  ·simp[Instr.sliceAt,Instr.slice,R4 (aC hT hk),hb w',aO hT hko,hs]
 ·rename_i e k sz off n hk
  by_cases hF:∃ sz' rs,hp[k]?=some (.full sz' rs)
  ·obtain⟨sz',rs,hcs⟩:=hF
   simp only[o9,hcs];intro⟨hss,k1,k2,k3,hm,h0,hab,hbm,hmN,hoN,hpos,hs,hko⟩;subst hss;have hko:=an hko;cases hx with
   |oslnil _ _ A hkk=>exact absurd hkk (hB.2 k _ _ hcs)
   |osl _ _ _ _ bb m' cap hkk hm' hn=>
   obtain⟨us,ty,fz,hw,hmm,hone,hrl,hsz,hr⟩:=hB.1 k _ bb m' hcs hkk (by simp)
   have hcap:cap=rs.length-off:=by
    rw[←hm'] at hmm;rw[hmm] at hsz
    have:=UZ hpos hsz;omega
   have hdm:((rs.length:Int)-off)=(cap:Int):=by omega
   rw[hdm] at hbm hmN ⊢;have hNc:rs.length-off=cap:=hcap.symm;have hb:=fun w'=>dz (P:=P) (isSlice:=true) (len:=n) (cap:=cap) h1 h2 h3 k1 k2 k3 hm (cap:Int) (fun _=>rfl) hmN h0 hab hbm w'
   have hm4:¬ mx.isSome=true→(bq (cap:Int) mx).toNat=cap:=by
    rcases fj h3 k3 with⟨rfl,rfl⟩|⟨km,im,rfl,rfl⟩
    ·intro _;simp only[bq];omega
    ·intro h;simp at h
   generalize bq 0 lo=a at *
   generalize bq n hi=b at *
   generalize bq (cap:Int) mx=mm at *
   refine⟨.slice (if mm.toNat=a.toNat then some ⟨bb,off*sz,none⟩ else some ⟨bb,off*sz+a.toNat*sz,none⟩) (b.toNat-a.toNat) (mm.toNat-a.toNat),?_,fun w'=>?_⟩
   ·simp only[sU]
    by_cases hmx:mx.isSome=true
    ·rw[RJ hmx];exact .any _
    rw[RI hmx,hm4 hmx,hNc];have hm5:=hm4 hmx
    by_cases ha:a.toNat=0
    ·rw[RJ ha,ha]
     have:(if cap=0 then some (⟨bb,off*sz,none⟩:Addr) else some ⟨bb,off*sz+0*sz,none⟩)=some ⟨bb,off*sz,none⟩:=by simp
     rw[this];exact .osl k sz off _ bb m' _ hkk (by rw[Sg];exact hm') (by omega)
    ·rw[RI ha]
     by_cases han:a.toNat<cap
     ·rw[RJ han,RI (by omega),←Sz]
      exact .osl k sz (off+a.toNat) _ bb m' (cap-a.toNat) hkk (by rw[SX,←hm'];congr 1;omega) (by omega)
     ·rw[RI han]
      have:b.toNat-a.toNat=([]:List (List DV)).length:=by simp;omega
      rw[this];exact .d _ _ (.sl sz [] _ _ (fun _ _=>undef) (by simp) (by simp) (by simp) (by simp))
   ·simp[Instr.sliceAt,Instr.slice,R4 (aC hT hk),hb w',aO hT hko,hs,TQ]
  have hEq:o9 (T e) hp k sz off n lo hi mx=tA (T e) k sz off n lo hi mx (bq 0 lo) (bq n hi) (bq n mx):=by
   unfold o9;split
   ·rename_i sz' rs hcs;exact absurd ⟨_,_,hcs⟩ hF
   ·rfl
  rw[hEq];intro⟨k1,k2,k3,hm,h0,hab,hbm,hmr,hs,hko⟩;have hko:=an hko;cases hx with
  | oslnil _ _ A hkk=>
    have hmc:∃ dm:Int,(mx=none→dm=((0:Nat):Int))∧bq dm mx≤(0:Nat)∧bq (0:Nat) hi≤bq dm mx:=by
     rcases fj h3 k3 with⟨rfl,rfl⟩|⟨km,im,rfl,rfl⟩
     ·refine⟨0,fun _=>rfl,SP _,?_⟩
      simp only[bq] at *
      omega
     ·refine⟨0,(fun hh=>by cases hh),?_,hbm⟩
      simp only[bq] at *
      omega
    obtain⟨dm,hdm1,hdm2,hdm3⟩:=hmc;have hb:=fun w'=>dz (P:=P) (isSlice:=true) (len:=0) (cap:=0) h1 h2 h3 k1 k2 k3 hm dm hdm1 hdm2 h0 hab hdm3 w'
    generalize bq 0 lo=a at *
    generalize bq (0:Nat) hi=b at *
    generalize bq dm mx=m at *
    have ea:a.toNat=0:=by omega
    have eb:b.toNat=0:=by omega
    have em:m.toNat=0:=by omega
    refine⟨.slice A 0 0,?_,fun w'=>?_⟩
    ·simp only[tA,ea,eb,S9]
     split
     ·exact .any _
     ·exact .oslnil k sz A hkk
    ·have:=hb w'
     rw[ea,eb,em] at this;simp[Instr.sliceAt,Instr.slice,R4 (aC hT hk),this,aO hT hko]
  |osl _ _ _ _ bb m' cap hkk hm' hn=>
  have hmc:∃ dm,(mx=none→dm=(cap:Int))∧bq dm mx≤cap∧bq n hi≤bq dm mx:=by
   rcases fj h3 k3 with⟨rfl,rfl⟩|⟨km,im,rfl,rfl⟩
   ·refine⟨cap,fun _=>rfl,SP _,?_⟩
    simp only[bq] at *
    omega
   ·refine⟨0,(fun hh=>by cases hh),?_,hbm⟩
    simp only[bq] at *
    omega
  obtain⟨dm,hdm1,hdm2,hdm3⟩:=hmc;have hb:=fun w'=>dz (P:=P) (isSlice:=true) (len:=n) (cap:=cap) h1 h2 h3 k1 k2 k3 hm dm hdm1 hdm2 h0 hab hdm3 w'
  have hmn:bq n mx≤bq dm mx:=by
   rcases fj h3 k3 with⟨rfl,rfl⟩|⟨km,im,rfl,rfl⟩
   ·simp only[bq,hdm1 rfl];omega
   ·simp only[bq];exact SP _
  have hdm4:¬ mx.isSome=true→bq dm mx=(cap:Int):=by
   rcases fj h3 k3 with⟨rfl,rfl⟩|⟨km,im,rfl,rfl⟩
   ·intro _;simp only[bq];exact hdm1 rfl
   ·intro h;simp at h
  generalize bq 0 lo=a at *
  generalize bq n hi=b at *
  generalize bq n mx=mn at *
  generalize bq dm mx=m at *
  refine⟨.slice (if m.toNat=a.toNat then some ⟨bb,off*sz,none⟩ else some ⟨bb,off*sz+a.toNat*sz,none⟩) (b.toNat-a.toNat) (m.toNat-a.toNat),?_,fun w'=>?_⟩
  ·have hmc':m.toNat≤cap:=by omega
   have hbm':b≤m:=by omega
   simp only[tA]
   by_cases hmx:mx.isSome=true
   ·rw[RJ hmx];exact .any _
   rw[RI hmx];have hmcap:m.toNat=cap:=by have:=hdm4 hmx;omega
   have hmn2:mn≤m:=hmn;clear hmn;subst hmcap
   by_cases ha:a.toNat=0
   ·rw[RJ ha,ha]
    have:(if m.toNat=0 then some (⟨bb,off*sz,none⟩:Addr) else some ⟨bb,off*sz+0*sz,none⟩)=some ⟨bb,off*sz,none⟩:=by simp
    rw[this];exact .osl k sz off _ bb m' _ hkk (by simpa using hm') (by omega)
   ·rw[RI ha]
    by_cases han:a.toNat<mn.toNat
    ·rw[RJ han,RI (by omega),←Sz]
     exact .osl k sz (off+a.toNat) _ bb m' (m.toNat-a.toNat) hkk (by rw[SX,←hm'];congr 1;omega) (by omega)
    ·rw[RI han]
     have:b.toNat-a.toNat=([]:List (List DV)).length:=by simp;omega
     rw[this];exact .d _ _ (.sl sz [] _ _ (fun _ _=>undef) (by simp) (by simp) (by simp) (by simp))
  ·simp[Instr.sliceAt,Instr.slice,R4 (aC hT hk),hb w',aO hT hko,hs,TQ]
 ·rename_i n e k hk
  unfold C8;split
  ·rename_i cs hcs
   intro⟨hmx,k1,k2,h0,hab,hbn,han,hcl,hko⟩;subst hmx;have hko:=an hko;cases hx with|ptr _ _ bb m' hkk=>
   obtain⟨us,ty,fz,hw,hm,hone,hl,hr⟩:=hB.1 k _ bb m' hcs hkk (by simp);have hb:=fun w'=>dz (P:=P) (isSlice:=false) (len:=n) (cap:=n) h1 h2 h3 k1 k2 Yj (.inl rfl) n (fun _=>rfl) (by simp[bq]) h0 hab (by simpa[bq] using hbn) w'
   cases umx with
   |some _=>exact h3.elim
   | none=>
     generalize bq 0 lo=a at *
     generalize bq n hi=b at *
     simp only[bq,Ta] at hb;refine⟨.slice (some ⟨bb,a.toNat*(T e).size,none⟩) (b.toNat-a.toNat) (n-a.toNat),.osl k (T e).size a.toNat _ bb m' (n-a.toNat) hkk ?_ (by omega),fun w'=>?_⟩
     ·rw[←hm,hl,hcl];congr 1;omega
     ·have hne:¬ n=a.toNat:=by omega
      simp[Instr.sliceAt,R4 (kE hT hk),Instr.sureAddr,hb w',aO hT hko,hne,TQ]
  ·intro h;exact h.elim
 ·intro h;exact h.elim
theorem aX{α:Type}(l news:List α)(off:Nat)(h:off+news.length≤l.length)(j:Nat) :
  (l.take off++news++l.drop (off+news.length))[j]?=if off≤j∧j<off+news.length then news[j-off]? else l[j]?:=by
 have h1:(l.take off).length=off:=by simp;omega
 by_cases hj:j<off
 ·rw[RI (by omega),Sq,R2 (by omega),Tc,RJ hj]
 ·by_cases hj2:j<off+news.length
  ·rw[RJ (by omega),R2 (by simp;omega),RT (by omega),h1]
  ·rw[RI (by omega),RT (by simp;omega),SM]
   congr 1;simp;omega
theorem da{α:Type}(l news:List α)(off:Nat)(h:off+news.length≤l.length):(l.take off++news++l.drop (off+news.length)).length=l.length:=by simp;omega
theorem xl(off:Nat):∀(vs:List Value) (i:Nat) (cur:Array Value),off+i+vs.length≤cur.size→
  (vs.zipIdx i).foldl (fun cs (x:Value×Nat)=>cs.setIfInBounds (off+x.2) x.1) cur=(cur.toList.take (off+i)++vs++cur.toList.drop (off+i+vs.length)).toArray
 |[],i,cur,_=>by simp
 | v :: rest,i,cur,h=>by
   simp only[List.zipIdx_cons,Uu];simp only[RQ] at h;rw[xl off rest (i+1) (cur.setIfInBounds (off+i) v) (by simp;omega)];congr 1;apply SR;intro j;have hl:=aX cur.toList (v::rest) (off+i) (by simp;omega) j;have hr:=aX (cur.setIfInBounds (off+i) v).toList rest (off+(i+1)) (by simp;omega) j;rw[hl,hr];simp only[RQ,VR,To,Sy]
   by_cases h1:off+(i+1)≤j∧j<off+(i+1)+rest.length
   ·rw[RJ h1,RJ (by omega)]
    rw[show j-(off+i)=(j-(off+(i+1)))+1 from by omega];simp
   ·rw[RI h1]
    by_cases h2:off+i=j
    ·rw[RJ h2,RJ (by omega),RJ (by omega)]
     rw[show j-(off+i)=0 from by omega];simp
    ·rw[RI h2,RI (by omega)]
theorem nI{v:AV}{u:Value}(h:RepV ρ ok w v u)(ht:oe v=false):u.cells.toList.length=(acells v).length∧(∀ x,x∈u.cells.toList→x.oneCell'=true)∧
  ∀(j:Nat) (c:AV) (x:Value),(acells v)[j]?=some c→u.cells.toList[j]?=some x→RepV ρ ok w c x:=by
 have one:∀(v:AV) (u:Value),RepV ρ ok w v u→u.cells=#[u]→acells v=[v]→u.oneCell'=true→u.cells.toList.length=(acells v).length∧(∀ x,x∈u.cells.toList→x.oneCell'=true)∧
   ∀(j:Nat) (c:AV) (x:Value),(acells v)[j]?=some c→u.cells.toList[j]?=some x→RepV ρ ok w c x:=by
  intro v u h h1 h2 h3;rw[h1,h2];refine⟨rfl,by simpa using h3,fun j c x hc hx=>?_⟩
  match j with
  |0=>simp at hc hx;subst hc;subst hx;exact h
  |j+1=>simp at hc
 cases v with
 |agg cs=>cases h with|agg _ us hl h1 hr=>exact⟨by simpa[Value.cells,acells] using hl,by simpa[Value.cells] using h1,by simpa[Value.cells,acells] using hr⟩
 |tup _=>simp[oe] at ht
 |any=>simp[oe] at ht
 |gd _ _=>simp[oe] at ht
 | d x=>
   have hd:=h;cases hd with|d _ _ hd=>
   have ho:=hd.one;refine one _ _ h ?_ rfl ho;cases u<;>first|rfl|simp[Value.oneCell'] at ho
 |ptr _ _=>have hd:=h;cases hd;exact one _ _ h rfl rfl rfl
 |rp _ _ _ _=>have hd:=h;cases hd;exact one _ _ h rfl rfl rfl
 |osl _ _ _ _=>have hd:=h;cases hd<;>exact one _ _ h rfl rfl rfl
 |dp _ _=>have hd:=h;cases hd;exact one _ _ h rfl rfl rfl
 |clo _ _ _=>have hd:=h;cases hd;exact one _ _ h rfl rfl rfl
 |mp _=>have hd:=h;cases hd;exact one _ _ h rfl rfl rfl
theorem nx {place:Nat→Option (Nat×Nat)}:∀(parts:List (Nat×AV)) (vparts:List (Nat×Value)) (cs:List AV) (us:Array Value),
  (vparts.length=parts.length)→(∀(j:Nat) (x:Nat×AV) (y:Nat×Value),parts[j]?=some x→vparts[j]?=some y→y.1=x.1∧RepV ρ ok w x.2 y.2)→
  us.size=cs.length→(∀ u,u∈us.toList→u.oneCell'=true)→(∀(j:Nat) (c:AV) (u:Value),cs[j]?=some c→us[j]?=some u→RepV ρ ok w c u)→
  (gz place parts cs).1→∃ us',Instr.fill place us vparts=some us'∧us'.size=(gz place parts cs).2.length∧(∀ u,u∈us'.toList→u.oneCell'=true)∧
   ∀(j:Nat) (c:AV) (u:Value),(gz place parts cs).2[j]?=some c→us'[j]?=some u→RepV ρ ok w c u
 | [],vparts,cs,us,hl,_,hsz,hone,hr,_=>by
   have:vparts=[]:=by simpa using hl
   subst this;exact⟨us,rfl,hsz,hone,hr⟩
 | (i, v)::rest,vparts,cs,us,hl,hp,hsz,hone,hr,hok=>by
   match vparts,hl with
   | (i',u)::vrest,hl=>
     obtain⟨hi,hv⟩:=hp 0 _ _ rfl rfl;simp only at hi hv;subst hi;simp only[gz] at hok ⊢;cases hpl:place i' with
     |none=>simp[hpl] at hok
     | some q=>
       obtain⟨off,size⟩:=q;simp only[hpl] at hok ⊢;obtain⟨h1,h2,h3,h4⟩:=hok;obtain⟨hc1,hc2,hc3⟩:=nI hv h3;have hcs:u.cells.size=(acells v).length:=by rw[←Sy];exact hc1
       have hul:us.toList.length=cs.length:=by simpa using hsz
       have hfold:=xl off u.cells.toList 0 us (by simp only[S8,Sy];omega);simp only[S8] at hfold;have hz:(u.cells.zipIdx.foldl (fun cs (x:Value×Nat)=>cs.setIfInBounds (off+x.2) x.1) us)=(us.toList.take off++u.cells.toList++us.toList.drop (off+u.cells.toList.length)).toArray:=by rw[←hfold,←Array.foldl_toList];simp
       have ih:=nx (place:=place) rest vrest (cs.take off++acells v++cs.drop (off+(acells v).length)) (us.toList.take off++u.cells.toList++us.toList.drop (off+u.cells.toList.length)).toArray
        (by simpa using hl) (fun j x y hx hy=>hp (j+1) x y (by simpa using hx) (by simpa using hy))
        (by rw[T7,da _ _ _ (by rw[hc1,hul];exact h2),da _ _ _ h2];simpa using hsz)
        (by
         intro x hx;simp only[Sp] at hx;rcases hx with(hx|hx)|hx
         ·exact hone x (St hx)
         ·exact hc2 x hx
         ·exact hone x (SJ hx))
        (by
         intro j c x hc hx;rw[aX _ _ _ h2] at hc;simp only[List.getElem?_toArray] at hx;rw[aX _ _ _ (by rw[hc1,hul];exact h2),hc1] at hx;split at hc
         ·rename_i hj;rw[RJ hj] at hx;exact hc3 _ _ _ hc hx
         ·rename_i hj;rw[RI hj] at hx;exact hr _ _ _ hc (by simpa using hx)) h4
       obtain⟨us',e1,e2,e3,e4⟩:=ih;refine⟨us',?_,e2,e3,e4⟩;have hng:¬ (u.cells.size≠size∨us.size<off+u.cells.size):=by omega
       simp only[Instr.fill,hpl];rw[←e1,←hz];simp[hng]
theorem eZ{T:TypeId→TI}(hT:ap P T){t:TypeId}(hk:(T t).kind≠.other) :
  ∃ z,(∀ w',(zeroValue t).run P w'=.ok z w')∧z.cells.toList=(T t).zero.map DV.val∧(if(T t).agg then z=.agg ((T t).zero.map DV.val).toArray else[z]=(T t).zero.map DV.val):=by
 obtain⟨i,z,h1,h2,h3,h4,h5⟩:=(aP hT hk).info;refine⟨z,fun w'=>by simp[zeroValue,typeInfo,h1,h4],?_,h5⟩;cases e:(T t).agg with
 |true=>rw[e] at h5;simp only[S9] at h5;subst h5;simp[Value.cells]
 | false=>
   rw[e] at h5;simp only[Tb,Tj] at h5;have hone:=(aP hT hk).one;rw[←h5]
   have:z.oneCell'=true:=by
    match hz:(T t).zero,h5 with
    | [x],h5=>
      have:=hone x (by rw[hz];simp);simp at h5;rw[h5];exact this.1
    |[],h5=>simp at h5
    |_::_::_,h5=>simp at h5
   cases z<;>first|rfl|simp[Value.oneCell'] at this
theorem sZ{x:DV}(h1:x.val.oneCell'=true)(h2:∀ sz rs,x≠.sl sz rs):X7 ok w x x.val:=by
 cases x with
 |int k n=>exact .int k n
 |bool b=>exact .bool b
 |str l=>exact .str l
 |sl sz rs=>exact absurd rfl (h2 sz rs)
 |sc v=>exact .sc v h1
theorem uB{T:TypeId→TI}(hT:ap P T){t:TypeId}(hk:(T t).kind≠.other)(j:Nat)(c:AV)(u:Value)(hc:((T t).zero.map AV.d)[j]?=some c)
  (hu:((T t).zero.map DV.val)[j]?=some u):RepV ρ ok w c u:=by
 rw[RS] at hc hu;obtain⟨x,hx,rfl⟩:=RY.1 hc;rw[hx] at hu;simp at hu;subst hu
 have:=(aP hT hk).one x (Sl hx);exact .d _ _ (sZ this.1 this.2)
theorem kG{T:TypeId→TI}(hT:ap P T){t:TypeId}(hk:(T t).kind≠.other)(u:Value)(hu:u∈(T t).zero.map DV.val):u.oneCell'=true:=by obtain⟨x,hx,rfl⟩:=SV.1 hu;exact((aP hT hk).one x hx).1
theorem sE{fields:Array Field}{fs:List (Nat×Nat×TypeId)}(hl:fields.size=fs.length)(hf:ul P fields fs)(w':World) :
  (fields.mapM fun f=>do pure (f.offset,←sizeOf f.type):Sem (Array (Nat×Nat))).run P w'=.ok (fs.map fun f=>(f.1,f.2.1)).toArray w':=by
 have key : ∀(l:List Field) (gs:List (Nat×Nat×TypeId)) ,l.length=gs.length→
   (∀(j:Nat) (o s t:Nat),gs[j]?=some (o,s,t)→∃ f,l[j]?=some f∧f.offset=o∧f.type=t∧s≠0∧∃ i,P.info? t=some i∧i.size=s)→
   (l.mapM (fun f=>do pure (f.offset,←sizeOf f.type):Field→Sem (Nat×Nat))).run P w'=.ok (gs.map fun f=>(f.1,f.2.1)) w':=by
  intro l
  induction l with
  |nil => intro gs hl _;have:gs=[]:=by simpa using hl.symm
          subst this;simp
  | cons f l ih=>
    intro gs hl hf
    match gs,hl with
    | (o,s,t)::gs,hl=>
      obtain⟨f',h1,h2,h3,h4,i,h5,h6⟩:=hf 0 o s t rfl;simp at h1;subst h1
      have:=ih gs (by simpa using hl) (fun j o s t hj=>by
       obtain⟨f'',q1,q2⟩:=hf (j+1) o s t (by simpa using hj)
       exact⟨f'',by simpa using q1,q2⟩)
      simp[WD,sizeOf,typeInfo,h3,h5,h2,h6] at this ⊢;rw[this];rfl
 have:=key fields.toList fs (by simpa using hl) (fun j o s t hj=>by
  obtain⟨f,q1,q2⟩:=hf j o s t hj
  exact⟨f,by simpa using q1,q2⟩)
 rw[V2];simp only[Sem.run_map,this,So]
theorem CY{T:TypeId→TI}(hT:ap P T)(t:TypeId)(parts:List (Nat×AV))(vparts:List (Nat×Value))(hl:vparts.length=parts.length)
  (hp:∀(j:Nat) (x:Nat×AV) (y:Nat×Value),parts[j]?=some x→vparts[j]?=some y→y.1=x.1∧RepV ρ ok w x.2 y.2) (h:(qx T (T t) parts).ok) :
  ∃ u,RepV ρ ok w (qx T (T t) parts).v u∧∀ w',(Instr.build t vparts.toArray).run P w'=.ok u w':=by
 revert h;unfold qx;split
 ·rename_i fs hk
  intro h;have hko:(T t).kind≠.other:=by rw[hk];simp
  obtain⟨fields,hu,hfs,hf⟩:=js hT hk;obtain⟨z,hz1,hz2,hz3⟩:=eZ hT hko
  obtain⟨us',e1,e2,e3,e4⟩:=nx (ρ:=ρ) (ok:=ok) (w:=w) (place:=fun i=>(fs[i]?).map fun f=>(f.1,f.2.1)) parts vparts ((T t).zero.map .d) z.cells hl hp
   (by rw[←Sy,hz2];simp) (fun u hu=>kG hT hko u (hz2▸hu)) (fun j c u hc hu'=>uB hT hko j c u hc (by rw[←hz2];simpa using hu')) h
  refine⟨.agg us',?_,fun w'=>?_⟩
  ·have:=RepV.agg (ρ:=ρ) (ok:=ok) (w:=w) _ us'.toList (by simpa using e2) e3 (fun j c u hc hu=>e4 j c u hc (by simpa using hu))
   simpa using this
  ·have hm:=sE (P:=P) hfs hf w'
   simp only[bind_pure_comp] at hm;simp[Instr.build,hz1,R4 hu,hm,e1]
 ·rename_i n e hk
  intro⟨h,hke⟩;have hke:=an hke;have hko:(T t).kind≠.other:=by rw[hk];simp
  obtain⟨z,hz1,hz2,hz3⟩:=eZ hT hko
  obtain⟨us',e1,e2,e3,e4⟩:=nx (ρ:=ρ) (ok:=ok) (w:=w) (place:=fun i=>some (i*(T e).size,(T e).size)) parts vparts ((T t).zero.map .d) z.cells hl hp
   (by rw[←Sy,hz2];simp) (fun u hu=>kG hT hko u (hz2▸hu)) (fun j c u hc hu'=>uB hT hko j c u hc (by rw[←hz2];simpa using hu')) h
  refine⟨.agg us',?_,fun w'=>?_⟩
  ·have:=RepV.agg (ρ:=ρ) (ok:=ok) (w:=w) _ us'.toList (by simpa using e2) e3 (fun j c u hc hu=>e4 j c u hc (by simpa using hu))
   simpa using this
  ·simp[Instr.build,hz1,R4 (kE hT hk),aO hT hke,e1]
 ·intro h;exact h.elim
end
def g1(x:AV)(f:AV→PR):PR:=⟨de x∧(f (aj x)).ok,(f (aj x)).v⟩
def g2(x y:AV)(f:AV→AV→PR):PR:=⟨de x∧de y∧(f (aj x) (aj y)).ok,(f (aj x) (aj y)).v⟩
def jJ:List AV→Prop
 |[]=>True
 |x::r=>de x∧jJ r
def Bf:Option AV→Prop
 |none=>True
 |some x=>de x
def IJ(ti:TI)(hp:List ABlk):AV→PR
 | .osl k sz off _=>
   (match ti.kind,hp[k]? with
   |.slice _,some (.full sz' rs)=>⟨sz=sz'∧0<sz∧off≤rs.length,I ((rs.length-off:Nat):Int)⟩
   |_,_=>⟨False,.any⟩)
 |_=>⟨False,.any⟩
def mq(T:TypeId→TI)(b:Builtin)(ts:List TypeId)(xs:List AV):PR:=
 match b,ts,xs with
 |.len,[t],[x]=>g1 x (H2 (T t))
 |.min,_,[x,y]=>g2 x y (amm false)
 |.max,_,[x,y]=>g2 x y (amm true)
 |.max,_,[x,y,z]=>⟨(g2 x y (amm true)).ok∧(g2 (g2 x y (amm true)).v z (amm true)).ok,(g2 (g2 x y (amm true)).v z (amm true)).v⟩
 |_,_,_=>⟨False,.any⟩
def fY(T:TypeId→TI)(hp:List ABlk)(vl:Operand→AV):Op→PR
 |.move x=>⟨de (vl x),aj (vl x)⟩
 |.assign x=>⟨de (vl x),aj (vl x)⟩
 |.pick c a b=>Ak (vl c) (vl a) (vl b)
 |.load t x=>g1 (vl x) (wH (T t) hp)
 |.nilCheck x=>g1 (vl x) OG
 |.binOp op t x y _=>g2 (vl x) (vl y) (Ku (T t) op)
 |.unOp op _ x=>g1 (vl x) (aun op)
 |.convert src dst x=>⟨((T src).kind matches .other)=false∧(g1 (vl x) (rK (T dst))).ok,(g1 (vl x) (rK (T dst))).v⟩
 |.slice t x lo hi mx=>⟨de (vl x)∧Bf (lo.map vl)∧Bf (hi.map vl)∧Bf (mx.map vl)∧
   (ru T (T t) hp (aj (vl x)) (lo.map fun y=>aj (vl y)) (hi.map fun y=>aj (vl y)) (mx.map fun y=>aj (vl y))).ok,
   (ru T (T t) hp (aj (vl x)) (lo.map fun y=>aj (vl y)) (hi.map fun y=>aj (vl y)) (mx.map fun y=>aj (vl y))).v⟩
 |.fieldAddr t x i=>g1 (vl x) (Lj (T t) i)
 |.field t x i=>g1 (vl x) (apart T (T t) i)
 |.indexAddr t x i=>g2 (vl x) (vl i) (m8 T (T t))
 |.index t x i=>g2 (vl x) (vl i) (H1 T (T t))
 |.extract x i=>g1 (vl x) (IS i)
 |.build t parts=>⟨jJ (parts.toList.map fun p=>vl p.2)∧(qx T (T t) (parts.toList.map fun p=>(p.1,aj (vl p.2)))).ok,(qx T (T t) (parts.toList.map fun p=>(p.1,aj (vl p.2)))).v⟩
 |.makeFunc (.func f) first caps=>⟨jJ (first.toList.map vl)∧jJ (caps.toList.map vl),.clo f (first.toList.map fun x=>aj (vl x)) (caps.toList.map fun x=>aj (vl x))⟩
 |.call { callee:=.builtin .cap,args,argTypes }=>(match args.toList,argTypes.toList with|[x],[t]=>g1 (vl x) (IJ (T t) hp)|_,_=>⟨False,.any⟩)
 |.call { callee:=.builtin b,args,argTypes }=>mq T b argTypes.toList (args.toList.map vl)
 |_=>⟨False,.any⟩
section
variable {P:Program} {ρ:List (Option (Nat×Nat))} {ok:Nat→Prop} {w:World}
theorem KA{T:TypeId→TI}(hT:ap P T){hp:List ABlk}(hB:qb ρ ok w hp)(t ty:TypeId)(x:AV)(ux:Value)(hx:RepV ρ ok w x ux)(h:(IJ (T t) hp x).ok) :
  ∃ u,RepV ρ ok w (IJ (T t) hp x).v u∧∀ w',(Builtin.cap_ #[t] ty #[ux]).run P w'=.ok u w':=by
 revert h;unfold IJ;split
 ·rename_i k sz off n
  split
  ·rename_i e sz' rs hk hcs
   intro⟨h1,h2,h3⟩;subst h1;cases hx with
   |oslnil _ _ A hkk=>exact absurd hkk (hB.2 k _ _ hcs)
   | osl _ _ _ _ b m cap hkk hm hn=>
     obtain⟨us,ty',fz,hw,hum,hone,hrl,hsz,hr⟩:=hB.1 k _ b m hcs hkk (by simp)
     have hcap:cap=rs.length-off:=by
      rw[←hm] at hum;rw[hum] at hsz
      have:=UZ h2 hsz;omega
     subst hcap;exact⟨_,.d _ _ (.int _ _),fun w'=>by simp[Builtin.cap_,R4 (aC hT hk),goInt]⟩
  ·intro h;exact h.elim
 ·intro h;exact h.elim
theorem iU:∀{l:List AV} {j:Nat} {x:AV},jJ l→l[j]?=some x→de x
 |y::r,0,x,h,hx=>by simp at hx;subst hx;exact h.1
 |y::r,j+1,x,h,hx=>iU h.2 (by simpa using hx)
theorem Jn{T:TypeId→TI}(hT:ap P T){t:TypeId}(hk:(T t).kind≠.other)(ha:(T t).agg=false):(T t).size=1:=by
 have h:=aP hT hk;obtain⟨i,z,_,_,_,_,h5⟩:=h.info;rw[ha] at h5;simp only[Tb,Tj] at h5
 have:=congrArg List.length h5;simp only[RO,RQ,Sd] at this;rw[←h.zl];omega
theorem vJ{vl:Operand→AV}{a:Act}(hv:∀ x,RepV ρ ok w (vl x) (a.eval x)){x:Option Operand}(h:Bf (x.map vl)) :
  BU ρ ok w (x.map fun y=>aj (vl y)) (x.map a.eval):=by
 cases x with
 |none=>trivial
 |some y=>exact ai (hv y) h
theorem ym{T:TypeId→TI}(hT:ap P T)(b:Builtin)(ts:List TypeId)(ty:TypeId)(cs:Array Bool)(xs:List AV)(us:List Value)(hl:us.length=xs.length)
  (hr:∀(j:Nat) (x:AV) (u:Value),xs[j]?=some x→us[j]?=some u→RepV ρ ok w x u) (h:(mq T b ts xs).ok) :
  ∃ u,RepV ρ ok w (mq T b ts xs).v u∧∀ w',(Go.builtin b ts.toArray ty cs us.toArray).run P w'=.ok (.value u) w':=by
 revert h;unfold mq;split
 ·rename_i t x
  match us,hl with
  | [ux],_=>
    intro⟨hg,hok⟩;obtain⟨u,h1,h2⟩:=Kv (P:=P) hT t ty (aj x) ux (ai (hr 0 _ _ rfl rfl) hg) hok;exact⟨u,h1,fun w'=>by simp[Go.builtin,h2]⟩
 ·rename_i x y
  match us,hl with
  | [ux,uy],_=>
    intro⟨hg,hg',hok⟩;obtain⟨u,h1,h2⟩:=sY (P:=P) false (aj x) (aj y) ux uy (ai (hr 0 _ _ rfl rfl) hg) (ai (hr 1 _ _ rfl rfl) hg') hok;simp only[Tb,Tj] at h2;exact⟨u,h1,fun w'=>by simp[Go.builtin,Builtin.min_,List.foldlM,h2]⟩
 ·rename_i x y
  match us,hl with
  | [ux,uy],_=>
    intro⟨hg,hg',hok⟩;obtain⟨u,h1,h2⟩:=sY (P:=P) true (aj x) (aj y) ux uy (ai (hr 0 _ _ rfl rfl) hg) (ai (hr 1 _ _ rfl rfl) hg') hok;simp only[S9] at h2;exact⟨u,h1,fun w'=>by simp[Go.builtin,Builtin.max_,List.foldlM,h2]⟩
 ·rename_i x y z
  match us,hl with
  | [ux,uy,uz],_=>
    intro⟨⟨hg,hg',hok⟩,hg1,hg2,hok2⟩;obtain⟨u,h1,h2⟩:=sY (P:=P) true (aj x) (aj y) ux uy (ai (hr 0 _ _ rfl rfl) hg) (ai (hr 1 _ _ rfl rfl) hg') hok;obtain⟨u',h1',h2'⟩:=sY (P:=P) true (aj (g2 x y (amm true)).v) (aj z) u uz (ai h1 hg1) (ai (hr 2 _ _ rfl rfl) hg2) hok2;simp only[S9] at h2 h2';exact⟨u',h1',fun w'=>by simp[Go.builtin,Builtin.max_,List.foldlM,h2,h2']⟩
 ·intro h;exact h.elim
def JD:Op→Bool
 |.load ..=>true
 |_=>false
theorem rB{T:TypeId→TI}(hT:ap P T){hp:List ABlk}(hlt:∀ b,ok b→b<w.heap.size)(hB:qb ρ ok w hp){vl:Operand→AV}{a:Act}
  (hv:∀ x,RepV ρ ok w (vl x) (a.eval x)) (o:Oper) (h:(fY T hp vl o.op).ok) :
  ∃ u,RepV ρ ok w (fY T hp vl o.op).v u∧∀ w',(JD o.op=true→Below w.heap.size w w')→(execOp a.eval o).run P w'=.ok (.value u) w':=by
 obtain⟨dst,op,ty,pos,after,guard⟩:=o;revert h;simp only;unfold fY;split
 ·rename_i x;intro h;exact⟨_,ai (hv x) h,fun w' _=>by simp[execOp]⟩
 ·rename_i x;intro h;exact⟨_,ai (hv x) h,fun w' _=>by simp[execOp]⟩
 ·rename_i c x y;intro h
  obtain⟨u,h1,h2⟩:=FA (P:=P) _ _ _ _ _ _ (hv c) (hv x) (hv y) h;exact⟨u,h1,fun w' _=>h2 w'⟩
 ·rename_i t x;intro⟨hg,h⟩
  obtain⟨u,h1,h2⟩:=xq hT hlt hB t _ _ (ai (hv x) hg) h;exact⟨u,h1,fun w' hb=>by simp[execOp,h2 w' (hb rfl)]⟩
 ·rename_i x;intro⟨hg,h⟩
  have hx:=ai (hv x) hg;revert h;simp only[g1];unfold OG;split
  ·rename_i e;rw[e] at hx;intro _;generalize hu:a.eval x=ux at *;cases hx with|ptr _ _ b m h=>exact⟨_,.ptr _ _ b m h,fun w' _=>by simp[execOp,hu]⟩
  ·rename_i e;rw[e] at hx;intro _;generalize hu:a.eval x=ux at *;cases hx with|rp _ _ _ _ b m h=>exact⟨_,.rp _ _ _ _ b m h,fun w' _=>by simp[execOp,hu]⟩
  ·rename_i e;rw[e] at hx;intro _;generalize hu:a.eval x=ux at *;cases hx with|dp _ _ b o' q hb hc hr=>exact⟨_,.dp _ _ b o' q hb hc hr,fun w' _=>by simp[execOp,hu]⟩
  ·rename_i e;rw[e] at hx;intro _;generalize hu:a.eval x=ux at *;cases hx with|clo _ _ _ us vs hl hl' hr hr'=>exact⟨_,.clo _ _ _ us vs hl hl' hr hr',fun w' _=>by simp[execOp,hu]⟩
  ·intro h;exact h.elim
 ·rename_i op t x y ty';intro⟨hg,hg',h⟩
  obtain⟨u,h1,h2⟩:=Lg (P:=P) hT op t _ _ _ _ (ai (hv x) hg) (ai (hv y) hg') h;exact⟨u,h1,fun w' _=>by simp[execOp,(h2 w').1,(h2 w').2]⟩
 ·rename_i op t x;intro⟨hg,h⟩
  obtain⟨u,h1,h2⟩:=Od (P:=P) op _ _ (ai (hv x) hg) h;exact⟨u,h1,fun w' _=>by simp[execOp,h2 w']⟩
 ·rename_i src dst' x;intro⟨hs,hg,h⟩
  obtain⟨d,hd,_⟩:=(aP hT (an hs)).und;obtain⟨u,h1,h2⟩:=xb (P:=P) hT src dst' _ _ ⟨d,hd⟩ (ai (hv x) hg) h;exact⟨u,h1,fun w' _=>by simp[execOp,h2 w']⟩
 ·rename_i t x lo hi mx;intro⟨hg,hg1,hg2,hg3,h⟩
  obtain⟨u,h1,h2⟩:=Dw (P:=P) hT hB t _ _ _ _ _ _ _ _ (ai (hv x) hg) (vJ hv hg1) (vJ hv hg2) (vJ hv hg3) h;exact⟨u,h1,fun w' _=>by simp[execOp,h2 w']⟩
 ·rename_i t x i;intro⟨hg,h⟩
  obtain⟨u,h1,h2⟩:=I4 (P:=P) hT t i _ _ (ai (hv x) hg) h;exact⟨u,h1,fun w' _=>by simp[execOp,h2 w']⟩
 ·rename_i t x i;intro⟨hg,h⟩
  obtain⟨u,h1,h2⟩:=GU (P:=P) hT t i _ _ (ai (hv x) hg) h (fun t hk ha=>Jn hT hk ha);exact⟨u,h1,fun w' _=>by simp[execOp,h2 w']⟩
 ·rename_i t x i;intro⟨hg,hg',h⟩
  obtain⟨u,h1,h2⟩:=yD (P:=P) hT t _ _ _ _ (ai (hv x) hg) (ai (hv i) hg') h;exact⟨u,h1,fun w' _=>by simp[execOp,h2 w']⟩
 ·rename_i t x i;intro⟨hg,hg',h⟩
  obtain⟨u,h1,h2⟩:=HV (P:=P) hT t _ _ _ _ (ai (hv x) hg) (ai (hv i) hg') h;exact⟨u,h1,fun w' _=>by simp[execOp,h2 w']⟩
 ·rename_i x i;intro⟨hg,h⟩
  obtain⟨u,h1,h2⟩:=JF (P:=P) i _ _ (ai (hv x) hg) h;exact⟨u,h1,fun w' _=>by simp[execOp,h2 w']⟩
 ·rename_i t parts;intro⟨hg,h⟩
  obtain⟨u,h1,h2⟩:=CY (P:=P) (ρ:=ρ) (ok:=ok) (w:=w) hT t (parts.toList.map fun p=>(p.1,aj (vl p.2))) (parts.toList.map fun p=>(p.1,a.eval p.2)) (by simp)
   (fun j x y hx hy=>by
    rw[RS] at hx hy;obtain⟨q,hq,rfl⟩:=RY.1 hx;rw[hq] at hy;simp at hy;subst hy
    exact⟨rfl,ai (hv q.2) (iU hg (j:=j) (by rw[RS,hq];rfl))⟩) h
  refine⟨u,h1,fun w' _=>?_⟩;have e:(parts.toList.map fun p=>(p.1,a.eval p.2)).toArray=parts.map fun(i,x)=>(i,a.eval x):=by apply TN;simp
  have:=h2 w';rw[e] at this;simp[execOp,this]
 ·rename_i f first caps;intro⟨hg,hg'⟩
  refine⟨.func (.func f) (first.map a.eval) (caps.map a.eval),?_,fun w' _=>by simp[execOp,Instr.makeFunc]⟩
  have:=RepV.clo (ρ:=ρ) (ok:=ok) (w:=w) f (first.toList.map fun x=>aj (vl x)) (caps.toList.map fun x=>aj (vl x)) (first.toList.map a.eval) (caps.toList.map a.eval) (by simp) (by simp)
   (fun j c u hc hu=>by
    rw[RS] at hc hu;obtain⟨q,hq,rfl⟩:=RY.1 hc;rw[hq] at hu;simp at hu;subst hu
    exact ai (hv q) (iU hg (j:=j) (by rw[RS,hq];rfl)))
   (fun j c u hc hu=>by
    rw[RS] at hc hu;obtain⟨q,hq,rfl⟩:=RY.1 hc;rw[hq] at hu;simp at hu;subst hu
    exact ai (hv q) (iU hg' (j:=j) (by rw[RS,hq];rfl)))
  have e1:(first.toList.map a.eval).toArray=first.map a.eval:=by apply TN;simp
  have e2:(caps.toList.map a.eval).toArray=caps.map a.eval:=by apply TN;simp
  rwa[e1,e2] at this
 ·rename_i args argTypes;intro h
  split at h
  ·rename_i x t hx ht
   have ea:args=#[x]:=by apply TN;simpa using hx
   have et:argTypes=#[t]:=by apply TN;simpa using ht
   subst ea;subst et;obtain⟨hg,h⟩:=h;obtain⟨u,h1,h2⟩:=KA (P:=P) hT hB t ty _ _ (ai (hv x) hg) h;exact⟨u,h1,fun w' _=>by simp[execOp,resolve,invoke,Go.builtin,h2 w']⟩
  ·exact h.elim
 ·rename_i b args argTypes _;intro h
  obtain⟨u,h1,h2⟩:=ym (P:=P) (ρ:=ρ) (ok:=ok) (w:=w) hT b argTypes.toList ty (args.map fun|.const _=>true|_=>false) (args.toList.map vl) (args.toList.map a.eval) (by simp)
   (fun j x u hx hu=>by
    rw[RS] at hx hu;obtain⟨q,hq,rfl⟩:=RY.1 hx;rw[hq] at hu;simp at hu;subst hu
    exact hv q) h
  refine⟨u,h1,fun w' _=>?_⟩;have e1:(args.toList.map a.eval).toArray=args.map a.eval:=by apply TN;simp
  have e2:argTypes.toList.toArray=argTypes:=by simp
  have:=h2 w';rw[e1,e2] at this;simp only[execOp,resolve,invoke,SS,S4,So];exact this
 ·intro h;exact h.elim
end
structure HStep (E:Ent) (ρ:List (Option (Nat×Nat))) (hp:List ABlk) (w:World) (ρ':List (Option (Nat×Nat))) (hp':List ABlk) (w':World):Prop where
 heap:X5 E ρ' hp' w'
 up:∀(k:Nat) (p:Option (Nat×Nat)),ρ[k]?=some p→ρ'[k]?=some p
 ok:∀ b,okB E ρ hp w b→okB E ρ' hp' w' b∧w'.heap[b]?=w.heap[b]?
section
variable {E:Ent} {ρ ρ' ρ2:List (Option (Nat×Nat))} {hp hp' hp2:List ABlk} {w w' w2:World}
theorem HStep.trans(h:HStep E ρ hp w ρ' hp' w')(h2:HStep E ρ' hp' w' ρ2 hp2 w2):HStep E ρ hp w ρ2 hp2 w2:=
 ⟨h2.heap,fun k p hk=>h2.up k p (h.up k p hk),fun b hb=>⟨(h2.ok b (h.ok b hb).1).1,(h2.ok b (h.ok b hb).1).2.trans (h.ok b hb).2⟩⟩
theorem HStep.below(h:X5 E ρ hp w)(hb:Below w.heap.size w w'):HStep E ρ hp w ρ hp w':=⟨h.below hb,fun _ _ hk=>hk,gj hb⟩
theorem Rep.step{s:ASt}{a:Act}(h:Rep E s ρ a w)(hs:HStep E ρ s.hp w ρ' hp' w'):Rep E { s with hp:=hp' } ρ' a w':=
 ⟨h.np,h.nodef,h.nt,fun t=>(h.env t).mono hs.up hs.ok,hs.heap,fun k p hk=>hs.up k p (h.pre k p hk)⟩
theorem RepV.step{x:AV}{u:Value}(h:RepV ρ (okB E ρ hp w) w x u)(hs:HStep E ρ hp w ρ' hp' w'):RepV ρ' (okB E ρ' hp' w') w' x u:=h.mono hs.up hs.ok
theorem X5.blks(h:X5 E ρ hp w):qb ρ (okB E ρ hp w) w hp:=by
 refine⟨fun k x b m hx hk hd=>?_,fun k sz rs hx hk=>?_⟩
 ·obtain⟨_,us,ty,fz,h1,h2,_,h4⟩:=h.blk k x b m hx hk hd
  exact⟨us,ty,fz,h1,h2,h4⟩
 ·rcases h.nil k _ hx hk with e|⟨sz',e⟩<;>cases e
theorem aI{α:Type}{l:List α}{x:α}{k:Nat}{y:α}(h:(l++[x])[k]?=some y):(k<l.length∧l[k]?=some y)∨(k=l.length∧y=x):=by
 rcases TR k l.length with hk|hk|hk
 ·rw[R2 hk] at h;exact .inl ⟨hk,h⟩
 ·subst hk;simp at h;exact .inr ⟨rfl,h.symm⟩
 ·rw[RT (by omega)] at h
  have:k-l.length≠0:=by omega
  cases e:k-l.length with
  |zero=>exact absurd e this
  |succ n=>rw[e] at h;simp at h
theorem get_append_old{α:Type}{l:List α}{x:α}{k:Nat}{y:α}(h:l[k]?=some y):(l++[x])[k]?=some y:=by have:=(RM.1 h).1;rw[R2 this];exact h
def pushB(w:World)(o:Obj):World:={ w with heap:=w.heap.push o }
def setB(w:World)(b:Nat)(o:Obj):World:={ w with heap:=w.heap.setIfInBounds b o }
theorem Yw(w:World)(o:Obj):(pushB w o).heap[w.heap.size]?=some o:=Array.getElem?_push_size
theorem qX(w:World)(o:Obj){b:Nat}(h:b<w.heap.size):(pushB w o).heap[b]?=w.heap[b]?:=by simp only[pushB];rw[Array.getElem?_push_lt h,Tn h]
theorem De(w:World)(o:Obj):(pushB w o).heap.size=w.heap.size+1:=by simp[pushB]
theorem sh(w:World)(o:Obj):Below w.heap.size w (pushB w o):=⟨rfl,rfl,rfl,by simp[pushB],fun _ h=>qX w o h⟩
theorem xG{x:ABlk}{p:Option (Nat×Nat)}(hl:ρ.length=hp.length){b:Nat}(h:fH (ρ++[p]) (hp++[x]) b):fH ρ hp b∨∃ m,p=some (b,m)∧x≠.dead:=by
 obtain⟨k,y,m,hy,hd,hk⟩:=h;rcases aI hy with⟨h1,h2⟩|⟨h1,h2⟩
 ·rcases aI hk with⟨_,h4⟩|⟨h3,_⟩
  ·exact .inl ⟨k,y,m,h2,hd,h4⟩
  ·omega
 ·rcases aI hk with⟨h3,_⟩|⟨_,h4⟩
  ·omega
  ·exact .inr ⟨m,h4.symm,h2▸hd⟩
theorem Xx(h:X5 E ρ hp w)(o:Obj)(m0:Nat)(x:ABlk)(hb:dJ ρ (okB E ρ hp w) w m0 o x) :
  HStep E ρ hp w (ρ++[some (w.heap.size,m0)]) (hp++[x]) (pushB w o):=by
 have hup:∀(k:Nat) (p:Option (Nat×Nat)),ρ[k]?=some p→(ρ++[some (w.heap.size,m0)])[k]?=some p:=fun k p hk=>get_append_old hk
 have hok:∀ b,okB E ρ hp w b→okB E (ρ++[some (w.heap.size,m0)]) (hp++[x]) (pushB w o) b∧(pushB w o).heap[b]?=w.heap[b]?:=by
  intro b ⟨h1,h2,h3⟩;refine⟨⟨h1,by rw[De];omega,fun hl=>?_⟩,qX _ _ h2⟩;rcases xG h.len hl with hl|⟨m,hm,_⟩
  ·exact h3 hl
  ·injection hm with hm;injection hm with hm;omega
 have hsz:E.w0.heap.size≤w.heap.size:=h.fr.size;refine⟨⟨by simp[h.len],fun k y b m hy hk hd=>?_,fun k y hy hk=>?_,fun k k' y y' b m m' hy hy' hd hd' hk hk'=>?_,h.fr.of_below (sh _ _)⟩,hup,hok⟩
 ·rcases aI hy with⟨h1,h2⟩|⟨h1,h2⟩
  ·rcases aI hk with⟨_,h4⟩|⟨h3,_⟩
   ·obtain⟨q1,o',q2,q3⟩:=h.obj k y b m h2 h4 hd
    exact⟨q1,o',(qX _ _ (a8 q2)).trans q2,q3.mono hup hok⟩
   ·have:=h.len;omega
  ·rcases aI hk with⟨h3,_⟩|⟨_,h4⟩
   ·have:=h.len;omega
   ·injection h4 with h4;injection h4 with h4 h5
    subst h4;subst h5;subst h2;exact⟨.inr hsz,_,Yw _ _,hb.mono hup hok⟩
 ·rcases aI hy with⟨h1,h2⟩|⟨h1,h2⟩
  ·rcases aI hk with⟨_,h4⟩|⟨h3,_⟩
   ·exact h.nil k y h2 h4
   ·have:=h.len;omega
  ·rcases aI hk with⟨h3,_⟩|⟨_,h4⟩
   ·have:=h.len;omega
   ·cases h4
 ·have key:∀(k:Nat) (y:ABlk) (b m:Nat),(hp++[x])[k]?=some y→y≠ABlk.dead→(ρ++[some (w.heap.size,m0)])[k]?=some (some (b,m))→(b<w.heap.size∧hp[k]?=some y∧ρ[k]?=some (some (b,m)))∨(b=w.heap.size∧k=hp.length):=by
   intro k y b m hy hd hk;rcases aI hy with⟨h1,h2⟩|⟨h1,h2⟩
   ·rcases aI hk with⟨_,h4⟩|⟨h3,_⟩
    ·obtain⟨_,o',q2,_⟩:=h.obj k y b m h2 h4 hd
     exact .inl ⟨a8 q2,h2,h4⟩
    ·have:=h.len;omega
   ·rcases aI hk with⟨h3,_⟩|⟨_,h4⟩
    ·have:=h.len;omega
    ·injection h4 with h4;injection h4 with h4 h5
     exact .inr ⟨h4,h1⟩
  rcases key k y b m hy hd hk with⟨a1,a2,a3⟩|⟨a1,a2⟩
  ·rcases key k' y' b m' hy' hd' hk' with⟨b1,b2,b3⟩|⟨b1,b2⟩
   ·exact h.inj k k' y y' b m m' a2 b2 hd hd' a3 b3
   ·omega
  ·rcases key k' y' b m' hy' hd' hk' with⟨b1,b2,b3⟩|⟨b1,b2⟩
   ·omega
   ·omega
theorem HStep.push(h:X5 E ρ hp w)(us:Array Value)(ty:TypeId)(fz:Nat×Nat)(x:ABlk)(hfz:wj us fz)(hpl:plain x us fz)(hb:eo ρ (okB E ρ hp w) w us x)(hm:x.isObj=false:=by rfl) :
  HStep E ρ hp w (ρ++[some (w.heap.size,us.size)]) (hp++[x]) (pushB w (.cells us ty fz)):=
 Xx h _ _ x ((dJ.cells hm).2 ⟨us,ty,fz,rfl,rfl,⟨hfz,hpl⟩,hb⟩)
theorem Xo(h:X5 E ρ hp w)(sz:Nat):HStep E ρ hp w (ρ++[none]) (hp++[.rows sz []]) w:=by
 have hup:∀(k:Nat) (p:Option (Nat×Nat)),ρ[k]?=some p→(ρ++[none])[k]?=some p:=fun k p hk=>get_append_old hk
 have hok:∀ b,okB E ρ hp w b→okB E (ρ++[none]) (hp++[.rows sz []]) w b∧w.heap[b]?=w.heap[b]?:=by
  intro b ⟨h1,h2,h3⟩;refine⟨⟨h1,h2,fun hl=>?_⟩,rfl⟩;rcases xG h.len hl with hl|⟨m,hm,_⟩
  ·exact h3 hl
  ·cases hm
 have key:∀(k:Nat) (y:ABlk) (p:Nat×Nat),(hp++[ABlk.rows sz []])[k]?=some y→(ρ++[none])[k]?=some (some p)→hp[k]?=some y∧ρ[k]?=some (some p):=by
  intro k y p hy hk;rcases aI hk with⟨_,h4⟩|⟨h3,h4⟩
  ·rcases aI hy with⟨h1,h2⟩|⟨h1,h2⟩
   ·exact⟨h2,h4⟩
   ·have:=(RM.1 h4).1
    have:=h.len;omega
  ·cases h4
 refine⟨⟨by simp[h.len],fun k y b m hy hk hd=>?_,fun k y hy hk=>?_,fun k k' y y' b m m' hy hy' hd hd' hk hk'=>?_,h.fr⟩,hup,hok⟩
 ·obtain⟨k1,k2⟩:=key k y _ hy hk
  obtain⟨q1,o,q2,q3⟩:=h.obj k y b m k1 k2 hd;exact⟨q1,o,q2,q3.mono hup hok⟩
 ·rcases aI hy with⟨h1,h2⟩|⟨h1,h2⟩
  ·rcases aI hk with⟨_,h4⟩|⟨h3,_⟩
   ·exact h.nil k y h2 h4
   ·have:=h.len;omega
  ·exact .inr ⟨sz,h2⟩
 ·obtain⟨k1,k2⟩:=key k y _ hy hk
  obtain⟨k3,k4⟩:=key k' y' _ hy' hk';exact h.inj k k' y y' b m m' k1 k3 hd hd' k2 k4
theorem am{α:Type}{l:List α}{k j:Nat}{x y:α}(h:(l.set k x)[j]?=some y):(j=k∧y=x∧k<l.length)∨(j≠k∧l[j]?=some y):=by
 rw[To] at h
 by_cases e:k=j
 ·subst e
  simp at h;exact .inl ⟨rfl,h.2.symm,h.1⟩
 ·rw[RI e] at h
  exact .inr ⟨fun e'=>e e'.symm,h⟩
theorem Xp(h:X5 E ρ hp w)(k:Nat):HStep E ρ hp w ρ (hp.set k .dead) w:=by
 have hlive:∀ b,fH ρ (hp.set k .dead) b→fH ρ hp b:=by
  intro b ⟨j,y,m,hy,hd,hk⟩;rcases am hy with⟨_,e,_⟩|⟨_,h2⟩
  ·exact absurd e hd
  ·exact⟨j,y,m,h2,hd,hk⟩
 have hok:∀ b,okB E ρ hp w b→okB E ρ (hp.set k .dead) w b∧w.heap[b]?=w.heap[b]?:=fun b ⟨h1,h2,h3⟩=>⟨⟨h1,h2,fun hl=>h3 (hlive b hl)⟩,rfl⟩
 refine⟨⟨by simp[h.len],fun j y b m hy hk hd=>?_,fun j y hy hk=>?_,fun j j' y y' b m m' hy hy' hd hd' hk hk'=>?_,h.fr⟩,fun _ _ hk=>hk,hok⟩
 ·rcases am hy with⟨_,e,_⟩|⟨_,h2⟩
  ·exact absurd e hd
  ·obtain⟨q1,o,q2,q3⟩:=h.obj j y b m h2 hk hd
   exact⟨q1,o,q2,q3.mono (fun _ _ hh=>hh) hok⟩
 ·rcases am hy with⟨_,e,_⟩|⟨_,h2⟩
  ·exact .inl e
  ·exact h.nil j y h2 hk
 ·rcases am hy with⟨_,e,_⟩|⟨_,h2⟩
  ·exact absurd e hd
  ·rcases am hy' with⟨_,e,_⟩|⟨_,h2'⟩
   ·exact absurd e hd'
   ·exact h.inj j j' y y' b m m' h2 h2' hd hd' hk hk'
theorem xE(w:World)(o:Obj){b:Nat}(h:b<w.heap.size):(setB w b o).heap[b]?=some o:=by simp[setB,h]
theorem oE(w:World)(o:Obj){b c:Nat}(h:c≠b):(setB w b o).heap[c]?=w.heap[c]?:=by simp only[setB];rw[Vr (fun e=>h e.symm)]
theorem xL(w:World)(b:Nat)(o:Obj):(setB w b o).heap.size=w.heap.size:=by simp[setB]
theorem Xu(h:X5 E ρ hp w){k b m:Nat}{x x':ABlk}{o:Obj}(hx:hp[k]?=some x)(hd:x≠.dead)(hd':x'≠.dead)
  (hk:ρ[k]?=some (some (b,m))) (hb:dJ ρ (okB E ρ hp w) w m o x') :
  HStep E ρ hp w ρ (hp.set k x') (setB w b o):=by
 have hkl:k<hp.length:=(RM.1 hx).1;have hlb:fH ρ hp b:=⟨k,x,m,hx,hd,hk⟩
 have hlive:∀ c,fH ρ (hp.set k x') c→fH ρ hp c:=by
  intro c ⟨j,y,m',hy,hyd,hj⟩;rcases am hy with⟨e,_,_⟩|⟨_,h2⟩
  ·subst e;rw[hk] at hj;injection hj with hj;injection hj with hj;injection hj with hj _;subst hj;exact hlb
  ·exact⟨j,y,m',h2,hyd,hj⟩
 have hok:∀ c,okB E ρ hp w c→okB E ρ (hp.set k x') (setB w b o) c∧(setB w b o).heap[c]?=w.heap[c]?:=by
  intro c ⟨h1,h2,h3⟩;have hne:c≠b:=fun e=>h3 (e▸hlb)
  exact⟨⟨h1,by rw[xL];exact h2,fun hl=>h3 (hlive c hl)⟩,oE _ _ hne⟩
 obtain⟨p1,o0,p2,p3⟩:=h.obj k x b m hx hk hd;refine⟨⟨by simp[h.len],fun j y c m' hy hj hyd=>?_,fun j y hy hj=>?_,fun j j' y y' c m1 m2 hy hy' hyd hyd' hj hj'=>?_,?_⟩,fun _ _ hh=>hh,hok⟩
 ·rcases am hy with⟨e,e',_⟩|⟨hne,h2⟩
  ·subst e;subst e'
   rw[hk] at hj;injection hj with hj;injection hj with hj;injection hj with hj1 hj2;subst hj1;subst hj2;exact⟨p1,o,xE _ _ (a8 p2),hb.mono (fun _ _ hh=>hh) hok⟩
  ·obtain⟨q1,o2,q2,q3⟩:=h.obj j y c m' h2 hj hyd
   have hcb:c≠b:=fun e=>hne (h.inj j k y x c m' m h2 hx hyd hd hj (e▸hk))
   exact⟨q1,o2,(oE _ _ hcb).trans q2,q3.mono (fun _ _ hh=>hh) hok⟩
 ·rcases am hy with⟨e,e',_⟩|⟨_,h2⟩
  ·subst e;rw[hk] at hj;cases hj
  ·exact h.nil j y h2 hj
 ·have key:∀(j:Nat) (y:ABlk),(hp.set k x')[j]?=some y→y≠ABlk.dead→∃ y0:ABlk,hp[j]?=some y0∧y0≠ABlk.dead:=by
   intro j y hy hyd;rcases am hy with⟨e,_,_⟩|⟨_,h2⟩
   ·subst e;exact⟨x,hx,hd⟩
   ·exact⟨y,h2,hyd⟩
  obtain⟨z,z1,z2⟩:=key j y hy hyd;obtain⟨z',z1',z2'⟩:=key j' y' hy' hyd';exact h.inj j j' z z' c m1 m2 z1 z1' z2 z2' hj hj'
 ·refine⟨h.fr.os,h.fr.tape,h.fr.output,by rw[xL];exact h.fr.size,fun c hc hL=>?_⟩
  have hne:c≠b:=by
   intro e;subst e;rcases p1 with p1|p1
   ·exact hL p1
   ·omega
  rw[oE _ _ hne];exact h.fr.block c hc hL
theorem HStep.set(h:X5 E ρ hp w){k b m:Nat}{x x':ABlk}{us us':Array Value}{ty:TypeId}{fz:Nat×Nat}(hx:hp[k]?=some x)(hd:x≠.dead)(hd':x'≠.dead)
  (hk:ρ[k]?=some (some (b,m))) (hw:w.heap[b]?=some (.cells us ty fz)) (hsz:us'.size=us.size) (hbb:∀ l,x=.bytes l→∃ l',x'=.bytes l') (hb:eo ρ (okB E ρ hp w) w us' x')
  (hm:x.isObj=false:=by rfl) (hm':x'.isObj=false:=by rfl):HStep E ρ hp w ρ (hp.set k x') (setB w b (.cells us' ty fz)):=by
 obtain⟨p1,us0,ty0,fz0,p2,p3,p4,p5⟩:=h.blk k x b m hx hk ⟨hd,hm⟩;rw[hw] at p2;injection p2 with p2;injection p2 with e1 e2 e3;subst e1;subst e2;subst e3;exact Xu h hx hd hd' hk ((dJ.cells hm').2 ⟨us',ty,fz,rfl,hsz.trans p3,⟨fun q hq=>p4.1 q (hsz▸hq),p4.2.elim (fun⟨l,hl⟩=>.inl (hbb l hl)) (fun h=>.inr (by rw[hsz];exact h))⟩,hb⟩)
end
structure MR where
 ok:Prop
 v:AV
 hp:List ABlk
def IP:AV→Option DV
 |.d x=>some x
 |_=>none
def kg:List AV→Option (List DV)
 |[]=>some []
 | x::r=>match IP x,kg r with
   |some y,some l=>some (y::l)
   |_,_=>none
def pp(sz:Nat):Nat→List AV→Option (List (List DV))
 |0,_=>some []
 | n+1,cs=>match kg (cs.take sz),pp sz n (cs.drop sz) with
   |some r,some l=>some (r::l)
   |_,_=>none
def rL(sz n:Nat)(cs:List AV):ABlk:=
 match pp sz n cs with
 |some rows=>.rows sz rows
 |none=>.cells cs
theorem FC(sz n:Nat)(cs:List AV):(rL sz n cs).isObj=false:=by unfold rL;split<;>rfl
def oD(ti:TI)(hp:List ABlk):MR:=⟨(ti.kind matches .other)=false,.ptr hp.length 0,hp++[.cells (ti.zero.map .d)]⟩
def Cz(x:AV)(hp:List ABlk):MR:=⟨de x∧oe (aj x)=false,.ptr hp.length 0,hp++[.cells (acells (aj x))]⟩
def d8(T:TypeId→TI)(ti:TI)(len:Nat)(parts:List (Nat×AV))(hp:List ABlk):MR:=
 match ti.kind with
 |.slice e=>⟨len*(T e).size≤2^24∧0<(T e).size∧(gz (fun i=>some (i*(T e).size,(T e).size)) parts ((List.replicate len (T e).zero).flatten.map .d)).1∧((T e).kind matches .other)=false,
   .osl hp.length (T e).size 0 len,hp++[rL (T e).size len (gz (fun i=>some (i*(T e).size,(T e).size)) parts ((List.replicate len (T e).zero).flatten.map .d)).2]⟩
 |_=>⟨False,.any,hp⟩
def sm(T:TypeId→TI)(ti:TI)(x y:AV)(hp:List ABlk):MR:=
 match ti.kind,x,y with
 |.slice e,.d (.int _ l),.d (.int _ c)=>⟨0≤l∧l≤c∧((T e).bytes:Int)*c≤281474976710656∧c≤9223372036854775807∧0<(T e).size∧((T e).kind matches .other)=false,
   .osl hp.length (T e).size 0 l.toNat,hp++[.rows (T e).size (List.replicate l.toNat (T e).zero)]⟩
 |_,_,_=>⟨False,.any,hp⟩
def spl{α:Type}(l news:List α)(off:Nat):List α:=
 match news with
 |[x]=>l.set off x
 |_=>l.take off++news++l.drop (off+news.length)
def oQ(ti:TI)(x v:AV)(hp:List ABlk):MR:=
 match x with
 | .ptr k off=>
   (match hp[k]? with
   |some (.cells cs)=>⟨oe v=false∧(acells v).length=ti.size∧off+ti.size≤cs.length∧(ti.kind matches .other)=false,.any,hp.set k (.cells (spl cs (acells v) off))⟩
   |_=>⟨False,.any,hp⟩)
 | .rp k sz i off=>
   (match hp[k]?,kg (acells v) with
   |some (.rows sz' rs),some ds=>⟨sz=sz'∧oe v=false∧ds.length=ti.size∧i<rs.length∧off+ti.size≤sz∧(ti.kind matches .other)=false,.any,hp.set k (.rows sz' (rs.set i (spl (rs.getD i []) ds off)))⟩
   |_,_=>⟨False,.any,hp⟩)
 |_=>⟨False,.any,hp⟩
section
variable {P:Program} {E:Ent} {ρ:List (Option (Nat×Nat))} {hp:List ABlk} {w:World}
def mc(E:Ent)(ρ:List (Option (Nat×Nat)))(hp:List ABlk)(w:World)(r:Result Next)(v:AV)(hp':List ABlk):Prop:=
 ∃ u w' ρ',(r=.ok (.value u) w'∨(r=.ok .skip w'∧u=undef))∧HStep E ρ hp w ρ' hp' w'∧RepV ρ' (okB E ρ' hp' w') w' v u
theorem qt:∀{cs:List AV} {ds:List DV},kg cs=some ds→cs=ds.map .d
 |[],ds,h=>by simp[kg] at h;subst h;rfl
 | x :: r,ds,h=>by
   cases x with
   | d y=>
     simp only[kg,IP] at h;cases hr:kg r with
     |none=>simp[hr] at h
     | some l=>
       simp[hr] at h;subst h
       have:=qt hr;simp[this]
   |_=>simp[kg,IP] at h
theorem wI {sz:Nat}:∀{n:Nat} {cs:List AV} {rows:List (List DV)},pp sz n cs=some rows→cs.length=n*sz→
  (∀ r,r∈rows→r.length=sz)∧rows.length=n∧∀(i:Nat) (r:List DV),rows[i]?=some r→∀(j:Nat) (c:DV),r[j]?=some c→cs[i*sz+j]?=some (.d c)
 |0,cs,rows,h,hl=>by simp[pp] at h;subst h;simp
 | n + 1,cs,rows,h,hl=>by
   simp only[pp] at h;cases h1:kg (cs.take sz) with
   |none=>simp[h1] at h
   | some r0=>
     cases h2:pp sz n (cs.drop sz) with
     |none=>simp[h1,h2] at h
     | some l=>
       simp[h1,h2] at h;subst h;rw[Sz] at hl;obtain⟨a1,a2,a3⟩:=wI h2 (by simp;omega);have e1:=qt h1;have el:r0.length=sz:=by have:=congrArg List.length e1;simp at this;omega
       refine⟨fun r hr=>?_,by simp[a2],fun i r hi j c hj=>?_⟩
       ·rcases RW.1 hr with rfl|hr
        ·exact el
        ·exact a1 r hr
       ·match i with
        | 0=>
          simp at hi;subst hi;have hjl:j<sz:=el▸(RM.1 hj).1
          have:(cs.take sz)[j]?=some (.d c):=by rw[e1,RS,hj];rfl
          rw[Tc,RJ hjl] at this;simpa using this
        | i+1=>
          have:=a3 i r (by simpa using hi) j c hj;rw[SM] at this;rw[show(i+1)*sz+j=sz+(i*sz+j) from by rw[Sz];omega];exact this
theorem yF{ok:Nat→Prop}{us:Array Value}{sz n:Nat}{cs:List AV}(hsz:us.size=cs.length)(hcl:cs.length=n*sz)(hone:∀ u,u∈us.toList→u.oneCell'=true)
  (hr:∀(j:Nat) (c:AV) (u:Value),cs[j]?=some c→us[j]?=some u→RepV ρ ok w c u):eo ρ ok w us (rL sz n cs):=by
 unfold rL;split
 ·rename_i rows hc
  obtain⟨a1,a2,a3⟩:=wI hc hcl;refine⟨hone,a1,by rw[a2,hsz,hcl];exact RP _,fun i r hi j c u hj hu=>?_⟩
  have:=hr _ _ _ (a3 i r hi j c hj) hu;cases this with|d _ _ h=>exact h
 ·exact⟨hone,hsz,hr⟩
theorem p9{ok:Nat→Prop}{us:Array Value}{cs:List AV}(hsz:us.size=cs.length)(hone:∀ u,u∈us.toList→u.oneCell'=true)
  (hr:∀(j:Nat) (c:AV) (u:Value),cs[j]?=some c→us[j]?=some u→RepV ρ ok w c u):eo ρ ok w us (.cells cs):=⟨hone,hsz,hr⟩
theorem ue(us:Array Value):wj us (0,0):=fun j _ h=>by omega
theorem oA(x:ABlk)(us:Array Value):plain x us (0,0):=.inr (by omega)
theorem sO{us:Array Value}{hp:List ABlk}(h:X5 E ρ hp w):(ρ++[some (w.heap.size,us.size)])[hp.length]?=some (some (w.heap.size,us.size)):=by rw[←h.len];simp
theorem yT{T:TypeId→TI}(hT:ap P T)(h:X5 E ρ hp w)(t:TypeId)(hk:(oD (T t) hp).ok) :
  ∃ u,mc E ρ hp w (.ok (.value u) (pushB w (.cells ((T t).zero.map DV.val).toArray t))) (oD (T t) hp).v (oD (T t) hp).hp∧
    (Instr.alloc t true (.tuple #[])).run P w=.ok u (pushB w (.cells ((T t).zero.map DV.val).toArray t)):=by
 have hko:=an hk;obtain⟨z,hz1,hz2,_⟩:=eZ (P:=P) hT hko;have hz3:z.cells=((T t).zero.map DV.val).toArray:=by rw[←hz2]
 refine⟨.pointer (some ⟨w.heap.size,0,none⟩),⟨_,_,_,.inl rfl,HStep.push h _ t (0,0) (.cells ((T t).zero.map .d)) (ue _) (oA _ _) (p9 (by simp) (fun u hu=>kG hT hko u (by simpa using hu)) fun j c u hc hu=>uB hT hko j c u hc (by simpa using hu)),?_⟩,?_⟩
 ·exact .ptr _ 0 _ _ (sO h)
 ·simp[Instr.alloc,hz1,newVar,newRow,hz3,pushB]
theorem DB(h:X5 E ρ hp w)(t:TypeId)(x:AV)(ux:Value)(hx:RepV ρ (okB E ρ hp w) w x ux)(hk:(Cz x hp).ok) :
  ∃ u w',mc E ρ hp w (.ok (.value u) w') (Cz x hp).v (Cz x hp).hp∧(Instr.box t ux).run P w=.ok u w':=by
 obtain⟨hg,ht⟩:=hk;obtain⟨h1,h2,h3⟩:=nI (ai hx hg) ht;refine⟨.pointer (some ⟨w.heap.size,0,none⟩),pushB w (.cells ux.cells t),⟨_,_,_,.inl rfl,HStep.push h _ t (0,0) (.cells (acells (aj x))) (ue _) (oA _ _) (p9 (by simpa using h1) h2 (fun j c u hc hu=>h3 j c u hc (by simpa using hu))),.ptr _ 0 _ _ (sO h)⟩,?_⟩;simp[Instr.box,newVar,newRow,pushB]
theorem nc{T:TypeId→TI}(hT:ap P T){e:TypeId}(hk:(T e).kind≠.other){z:Value}(hz:z.cells.toList=(T e).zero.map DV.val)(hsz:0<(T e).size)(n:Nat) :
  ((Array.range (n*(T e).size)).map (z.cells[·%z.cells.size]!)).toList=((List.replicate n (T e).zero).flatten).map DV.val:=by
 have hzl:=(aP hT hk).zl;have hzs:z.cells.size=(T e).size:=by rw[←Sy,hz,RO,hzl]
 have key:∀ n,(List.range (n*(T e).size)).map (fun i=>z.cells[i%z.cells.size]!)=((List.replicate n (T e).zero).flatten).map DV.val:=by
  intro n
  induction n with
  |zero=>simp
  | succ n ih=>
    rw[Sz,Nat.one_mul,List.range_add,Sn,ih,VA,VJ,Sn];congr 1;simp only[List.flatten_cons,List.flatten_nil,Se,←hz,WX];apply SR;intro j
    by_cases hj:j<(T e).size
    ·have hj':j<z.cells.size:=by omega
     have em:(n*(T e).size+j)%(T e).size=j:=by rw[TS,Ul,Ts hj]
     simp[hj,hj',hzs,em]
    ·rw[R9 (by simp;omega),R9 (by simp;omega)]
 have:=key n;simpa using this
theorem qj{T:TypeId→TI}(hT:ap P T)(h:X5 E ρ hp w)(t:TypeId)(len:Nat)(parts:List (Nat×AV))(vparts:List (Nat×Value))(hl:vparts.length=parts.length)
  (hp':∀(j:Nat) (x:Nat×AV) (y:Nat×Value),parts[j]?=some x→vparts[j]?=some y→y.1=x.1∧RepV ρ (okB E ρ hp w) w x.2 y.2) (hk:(d8 T (T t) len parts hp).ok) :
  ∃ u w',mc E ρ hp w (.ok (.value u) w') (d8 T (T t) len parts hp).v (d8 T (T t) len parts hp).hp∧(Instr.buildSlice t len vparts.toArray).run P w=.ok u w':=by
 revert hk;unfold d8;split
 ·rename_i e hke
  intro⟨hlim,hpos,hfill,hko⟩;have hko:=an hko;obtain⟨z,hz1,hz2,_⟩:=eZ (P:=P) hT hko;have hmade:=nc hT hko hz2 hpos len
  obtain⟨us,e1,e2,e3,e4⟩:=nx (ρ:=ρ) (ok:=okB E ρ hp w) (w:=w) (place:=fun i=>some (i*(T e).size,(T e).size)) parts vparts ((List.replicate len (T e).zero).flatten.map .d)
   ((Array.range (len*(T e).size)).map (z.cells[·%z.cells.size]!)) hl hp'
   (by rw[←Sy,hmade];simp)
   (fun u hu=>by
    rw[hmade] at hu;obtain⟨x,hx,rfl⟩:=SV.1 hu;obtain⟨l,hl1,hl2⟩:=Wd.1 hx
    have:=(UK.1 hl1).2;subst this
    exact kG hT hko _ (SV.2 ⟨x,hl2,rfl⟩))
   (fun j c u hc hu=>by
    have hu':(((List.replicate len (T e).zero).flatten).map DV.val)[j]?=some u:=by rw[←hmade,Ur];exact hu
    rw[RS] at hc hu';obtain⟨x,hx,rfl⟩:=RY.1 hc;rw[hx] at hu';simp at hu';subst hu';obtain⟨l,hl1,hl2⟩:=Wd.1 (Sl hx)
    have:=(UK.1 hl1).2;subst this
    have:=(aP hT hko).one x hl2
    exact .d _ _ (sZ this.1 this.2)) hfill
  have hlen:(gz (fun i=>some (i*(T e).size,(T e).size)) parts ((List.replicate len (T e).zero).flatten.map .d)).2.length=len*(T e).size:=by
   have key:∀(parts:List (Nat×AV)) (cs:List AV),(gz (fun i=>some (i*(T e).size,(T e).size)) parts cs).1→(gz (fun i=>some (i*(T e).size,(T e).size)) parts cs).2.length=cs.length:=by
    intro parts
    induction parts with
    |nil=>intro cs _;rfl
    | cons p rest ih=>
      intro cs hh;obtain⟨i,v⟩:=p;simp only[gz] at hh ⊢;rw[ih _ hh.2.2.2,da _ _ _ hh.2.1]
   rw[key _ _ hfill]
   have:=(aP hT hko).zl
   have hrep:∀ n:Nat,((List.replicate n (T e).zero).flatten).length=n*(T e).size:=by
    intro n
    induction n with
    |zero=>simp
    |succ n ih=>rw[VK,List.flatten_cons,RL,ih,this,Sz];omega
   rw[RO,hrep]
  refine⟨.slice (some ⟨w.heap.size,0,none⟩) len len,pushB w (.cells us e),⟨_,_,_,.inl rfl,HStep.push h _ e (0,0) (rL (T e).size len (gz (fun i=>some (i*(T e).size,(T e).size)) parts ((List.replicate len (T e).zero).flatten.map .d)).2) (ue _) (oA _ _) (yF e2 hlen e3 e4) (FC _ _ _),?_⟩,?_⟩
  ·have:=RepV.osl (ρ:=ρ++[some (w.heap.size,us.size)]) (ok:=okB E (ρ++[some (w.heap.size,us.size)]) (hp++[rL (T e).size len (gz (fun i=>some (i*(T e).size,(T e).size)) parts ((List.replicate len (T e).zero).flatten.map .d)).2]) (pushB w (.cells us e))) (w:=pushB w (.cells us e)) hp.length (T e).size 0 len w.heap.size us.size len (sO h) (by rw[e2,hlen,SO]) (RP _)
   simpa using this
  ·have hlim':¬ (2^24<len*(T e).size):=by omega
   by_cases hz0:len*(T e).size=0
   ·have hz:(Array.range (len*(T e).size)).map (z.cells[·%z.cells.size]!)=#[]:=by
     rw[hz0];simp[Array.range_zero']
    rw[hz] at e1;simp[Instr.buildSlice,R4 (aC hT hke),aO hT hko,hz0,Array.range_zero',e1,newRow,pushB]
   ·simp[Instr.buildSlice,R4 (aC hT hke),aO hT hko,hlim',hz0,hz1,e1,newRow,pushB]
 ·intro h;exact h.elim
theorem BX{T:TypeId→TI}(hT:ap P T)(h:X5 E ρ hp w)(t:TypeId)(x y:AV)(ux uy:Value)(hx:RepV ρ (okB E ρ hp w) w x ux)(hy:RepV ρ (okB E ρ hp w) w y uy)
  (hk:(sm T (T t) x y hp).ok) :
  ∃ u w',mc E ρ hp w (.ok (.value u) w') (sm T (T t) x y hp).v (sm T (T t) x y hp).hp∧(Instr.makeSlice t ux uy).run P w=.ok u w':=by
 revert hk;unfold sm;split
 ·rename_i e kl l kc c hke
  intro⟨h0,hlc,hby,h63,hpos,hko⟩;have hko:=an hko;cases hx with|d _ _ hx=>cases hx with|int _ _=>
  cases hy with|d _ _ hy=>cases hy with|int _ _=>
  obtain⟨i,z,hi1,hi2,hi3,hi4,hi5⟩:=(aP hT hko).info;obtain⟨z',hz1,hz2,_⟩:=eZ (P:=P) hT hko;have hzz:z'=z:=by have:=hz1 w;simp[zeroValue,typeInfo,hi1,hi4] at this;exact this.symm
  subst hzz;have hrun:=run_make (P:=P) w t e i z' (aC hT hke) hi1 hi4 kl kc l c h0 hlc (by rw[hi3];exact hby) h63;rw[hi2] at hrun;have hmade:(madeCells z'.cells (c.toNat*(T e).size)).toList=((List.replicate c.toNat (T e).zero).flatten).map DV.val:=nc hT hko hz2 hpos c.toNat;refine⟨_,pushB w (.cells (madeCells z'.cells (c.toNat*(T e).size)) e),⟨_,_,_,.inl rfl,HStep.push h _ e (0,0) (.rows (T e).size (List.replicate l.toNat (T e).zero)) (ue _) (oA _ _) ⟨?_,?_,?_,?_⟩,?_⟩,hrun⟩
  ·intro u hu
   rw[hmade] at hu;obtain⟨x,hx,rfl⟩:=SV.1 hu;obtain⟨q,hl1,hl2⟩:=Wd.1 hx
   have:=(UK.1 hl1).2;subst this;exact kG hT hko _ (SV.2 ⟨x,hl2,rfl⟩)
  ·intro r hr
   rw[(UK.1 hr).2];exact(aP hT hko).zl
  ·rw[size_madeCells,TJ]
   exact Sc _ (by omega)
  ·intro q r hq j x u hj hu
   obtain⟨hq1,hq2⟩:=RM.1 hq;simp at hq1 hq2;subst hq2;have hjl:j<(T e).size:=by rw[←(aP hT hko).zl];exact(RM.1 hj).1
   have hzs:z'.cells.size=(T e).size:=by rw[←Sy,hz2,RO,(aP hT hko).zl]
   have hlt:q*(T e).size+j<c.toNat*(T e).size:=by have:(q+1)*(T e).size≤c.toNat*(T e).size:=Sc _ (by omega);rw[Sz] at this;omega
   have em:(q*(T e).size+j)%(T e).size=j:=by rw[TS,Ul,Ts hjl]
   have hu2:u=x.val:=by
    have h1:(z'.cells.toList)[j]?=some x.val:=by rw[hz2,RS,hj];rfl
    simp[madeCells,hlt,hzs,em] at hu;have hjz:j<z'.cells.size:=by omega
    rw[Ur,Tn hjz] at h1;simp[hjz] at hu;injection h1 with h1;rw[←hu,h1]
   subst hu2
   have:=(aP hT hko).one x (Sl hj);exact sZ this.1 this.2
  ·have:=RepV.osl (ρ:=ρ++[some (w.heap.size,(madeCells z'.cells (c.toNat*(T e).size)).size)]) (ok:=okB E (ρ++[some (w.heap.size,(madeCells z'.cells (c.toNat*(T e).size)).size)]) (hp++[.rows (T e).size (List.replicate l.toNat (T e).zero)]) (pushB w (.cells (madeCells z'.cells (c.toNat*(T e).size)) e))) (w:=pushB w (.cells (madeCells z'.cells (c.toNat*(T e).size)) e)) hp.length (T e).size 0 l.toNat w.heap.size _ c.toNat (sO h) (by rw[size_madeCells,SO]) (by omega)
   simpa using this
 ·intro h;exact h.elim
end
theorem Df{α:Type}(l news:List α)(off:Nat)(h:off+news.length≤l.length):spl l news off=l.take off++news++l.drop (off+news.length):=by
 unfold spl;split
 ·rename_i x
  apply SR;intro j;rw[aX _ _ _ h,To];simp only[RQ,Sd] at h ⊢
  by_cases e:off=j
  ·subst e
   rw[RJ rfl,RJ (by omega),RJ (by omega)];simp
  ·rw[RI e,RI (by omega)]
 ·rfl
theorem u6{α:Type}(l news:List α)(off:Nat)(h:off+news.length≤l.length):(spl l news off).length=l.length:=by rw[Df _ _ _ h,da _ _ _ h]
section
variable {P:Program} {E:Ent} {ρ:List (Option (Nat×Nat))} {hp:List ABlk} {w:World}
theorem Fz(w:World)(b:Nat)(o o':Obj):setB (setB w b o) b o'=setB w b o':=by unfold setB;simp
theorem xg(w:World)(b:Nat)(o:Obj)(h:w.heap[b]?=some o):setB w b o=w:=by
 obtain⟨h1,h2⟩:=Tr.1 h;cases w with
 | mk heap tape drawn os output=>
   simp only[setB];congr 1;apply Array.ext
   ·simp
   ·intro i h3 h4
    simp only at h1 h2;rw[VO];split
    ·rename_i e;subst e;exact h2.symm
    ·rfl
theorem za(w:World)(g i:Nat)(cur:Array Value)(t:TypeId)(fz:Nat×Nat)(v:Value)(hg:w.heap[g]?=some (.cells cur t fz)) :
  w.setCell ⟨g,i,none⟩ v=setB w g (.cells (cur.setIfInBounds i v) t fz):=by
 obtain⟨h1,h2⟩:=Tr.1 hg;unfold setB World.setCell;congr 1;apply Array.ext
 ·simp
 ·intro j h3 h4
  rw[Array.getElem_modify,VO];split
  ·rename_i e;subst e;simp[h2]
  ·rfl
theorem yg(w:World)(g o:Nat)(cur:Array Value)(t:TypeId)(fz:Nat×Nat)(v:Value)(hg:w.heap[g]?=some (.cells cur t fz))(ho:o<cur.size)(hfz:wj cur fz)
  (h1:v.oneCell'=true):(store ⟨g,o,none⟩ v).run P w=.ok () (setB w g (.cells (cur.setIfInBounds o v) t fz)):=by
 have hcell:w.cell? ⟨g,o,none⟩=some cur[o]:=by rw[bc hg];simp[ho]
 have hfro:w.frozen? ⟨g,o,none⟩=false:=by have:=hfz o ho;simp[World.frozen?,hg];omega
 rw[run_store P w _ v _ h1,hcell];simp only[hfro];simp[za w g o cur t fz v hg]
theorem cS(g o:Nat)(t:TypeId)(fz:Nat×Nat):∀(vs:List Value) (i:Nat) (cur:Array Value) (w:World),w.heap[g]?=some (.cells cur t fz)→o+i+vs.length≤cur.size→wj cur fz→(∀ v∈vs,v.oneCell'=true)→
  (storeCells ⟨g,o,none⟩ vs i).run P w=.ok () (setB w g (.cells (cur.toList.take (o+i)++vs++cur.toList.drop (o+i+vs.length)).toArray t fz))
 | [],i,cur,w,hg,_,_,_=>by
   simp only[storeCells,Se,Sd,S8,SN,Array.toArray_toList];rw[xg w g _ hg];rfl
 | v :: rest,i,cur,w,hg,hl,hfz,h1=>by
   have hi:o+i<cur.size:=by simp at hl;omega
   have hst:=yg (P:=P) w g (o+i) cur t fz v hg hi hfz (h1 v (by simp))
   have ih:=cS g o t fz rest (i+1) (cur.setIfInBounds (o+i) v) (setB w g (.cells (cur.setIfInBounds (o+i) v) t fz)) (xE _ _ (a8 hg)) (by simp at hl ⊢;omega)
    (fun j hj=>hfz j (by simpa using hj)) (fun x hx=>h1 x (by simp[hx]))
   simp only[storeCells,TQ,SS,hst,So,ih,Fz];have e:=list_seg_step cur.toList (o+i) v rest (by simp at hl ⊢;omega);have e':(cur.setIfInBounds (o+i) v).toList.take (o+(i+1))++rest++(cur.setIfInBounds (o+i) v).toList.drop (o+(i+1)+rest.length)=cur.toList.take (o+i)++v::rest++cur.toList.drop (o+i+(v::rest).length):=by simpa[VR,SX] using e
   rw[e']
theorem iu{T:TypeId→TI}(hT:ap P T)(t:TypeId)(hk:(T t).kind≠.other)(g o:Nat)(ty:TypeId)(fz:Nat×Nat)(cur:Array Value)(v:Value)(hg:w.heap[g]?=some (.cells cur ty fz))
  (hsz:v.cells.size=(T t).size) (ho:o+(T t).size≤cur.size) (hfz:wj cur fz) (h1:∀ x,x∈v.cells.toList→x.oneCell'=true) :
  (Instr.storeAt t (.pointer (some ⟨g,o,none⟩)) v).run P w=.ok () (setB w g (.cells (cur.toList.take o++v.cells.toList++cur.toList.drop (o+(T t).size)).toArray ty fz)):=by
 have:=cS (P:=P) g o ty fz v.cells.toList 0 cur w hg (by simp[hsz];exact ho) hfz h1;simp only[S8,Sy,hsz] at this;simp[Instr.storeAt,Instr.sureAddr,storeVar,aO hT hk,hsz,this]
theorem p8{T:TypeId→TI}(hT:ap P T)(h:X5 E ρ hp w)(t:TypeId)(x v:AV)(ux uv:Value)(hx:RepV ρ (okB E ρ hp w) w x ux)(hv:RepV ρ (okB E ρ hp w) w v uv)(hk:(oQ (T t) x v hp).ok) :
  ∃ w',mc E ρ hp w (.ok .skip w') (oQ (T t) x v hp).v (oQ (T t) x v hp).hp∧(Instr.storeAt t ux uv).run P w=.ok () w':=by
 revert hk;unfold oQ;split
 ·rename_i k off
  split
  ·rename_i cs hcs
   intro⟨ht,hl,hfit,hko⟩;have hko:=an hko;cases hx with|ptr _ _ b m hkk=>
   obtain⟨q1,us,ty,fz,hw,hm,hfz,hone,hsz,hr⟩:=h.blk k _ b m hcs hkk (by simp);obtain⟨c1,c2,c3⟩:=nI hv ht;have hcs2:uv.cells.size=(T t).size:=by rw[←Sy,c1,hl]
   have hrun:=iu (P:=P) hT t hko b off ty fz us uv hw hcs2 (by rw[hsz];exact hfit) hfz.1 c2;refine⟨_,⟨undef,_,_,.inr ⟨rfl,rfl⟩,HStep.set h hcs (by simp) (by simp) hkk hw (us':=(us.toList.take off++uv.cells.toList++us.toList.drop (off+(T t).size)).toArray) ?_ (fun l e=>by cases e) ⟨?_,?_,?_⟩,.any _⟩,hrun⟩
   ·simp;omega
   ·intro u hu
    simp only[Sp] at hu;rcases hu with(hu|hu)|hu
    ·exact hone u (St hu)
    ·exact c2 u hu
    ·exact hone u (SJ hu)
   ·rw[u6 _ _ _ (by omega)];simp;omega
   ·intro j c u hc hu
    have hul:us.toList.length=cs.length:=by simpa using hsz
    rw[Df _ _ _ (by omega),aX _ _ _ (by omega)] at hc;have hu':(us.toList.take off++uv.cells.toList++us.toList.drop (off+uv.cells.toList.length))[j]?=some u:=by rw[Sy,hcs2];simpa using hu
    rw[aX _ _ _ (by rw[c1];omega),c1] at hu';split at hc
    ·rename_i hj;rw[RJ hj] at hu';exact c3 _ _ _ hc hu'
    ·rename_i hj;rw[RI hj] at hu';exact hr _ _ _ hc (by simpa using hu')
  ·intro h;exact h.elim
 ·rename_i k sz i off
  split
  ·rename_i sz' rs ds hcs hds
   intro⟨h0,ht,hl,hi,hfit,hko⟩;subst h0;have hko:=an hko;cases hx with|rp _ _ _ _ b m hkk=>
   obtain⟨q1,us,ty,fz,hw,hm,hfz,hone,hrl,hsz,hr⟩:=h.blk k _ b m hcs hkk (by simp);obtain⟨c1,c2,c3⟩:=nI hv ht;have hdm:=qt hds;have hcl:(acells v).length=ds.length:=by rw[hdm,RO]
   have hcs2:uv.cells.size=(T t).size:=by rw[←Sy,c1,hcl,hl]
   have hrow:=di rs i [] hi;have hrlen:(rs.getD i []).length=sz:=hrl _ (Sl hrow);have hbig:(i+1)*sz≤rs.length*sz:=Sc _ hi;rw[Sz] at hbig;have hrun:=iu (P:=P) hT t hko b (i*sz+off) ty fz us uv hw hcs2 (by omega) hfz.1 c2;refine⟨_,⟨undef,_,_,.inr ⟨rfl,rfl⟩,HStep.set h hcs (by simp) (by simp) hkk hw (us':=(us.toList.take (i*sz+off)++uv.cells.toList++us.toList.drop (i*sz+off+(T t).size)).toArray) ?_ (fun l e=>by cases e) ⟨?_,?_,?_,?_⟩,.any _⟩,hrun⟩
   ·simp;omega
   ·intro u hu
    simp only[Sp] at hu;rcases hu with(hu|hu)|hu
    ·exact hone u (St hu)
    ·exact c2 u hu
    ·exact hone u (SJ hu)
   ·intro r hr'
    rcases Td hr' with hr'|rfl
    ·exact hrl r hr'
    ·rw[u6 _ _ _ (by omega),hrlen]
   ·rw[R3];simp;omega
   ·intro i' r hi' j c u hj hu
    have hu':(us.toList.take (i*sz+off)++uv.cells.toList++us.toList.drop (i*sz+off+uv.cells.toList.length))[i'*sz+j]?=some u:=by rw[Sy,hcs2];simpa using hu
    rw[aX _ _ _ (by simp;omega),c1,hcl] at hu';rcases am hi' with⟨e,e',_⟩|⟨hne,h2⟩
    ·subst e;subst e'
     rw[Df _ _ _ (by omega),aX _ _ _ (by omega)] at hj;split at hj
     ·rename_i hjj
      rw[RJ (by omega)] at hu';have e2:i'*sz+j-(i'*sz+off)=j-off:=by omega
      rw[e2] at hu'
      have:=c3 (j-off) (.d c) u (by rw[hdm,RS,hj];rfl) hu';cases this with|d _ _ h=>exact h
     ·rename_i hjj
      rw[RI (by omega)] at hu';exact hr i' _ hrow j c u hj (by simpa using hu')
    ·have hjl:j<sz:=by rw[←hrl r (Sl h2)];exact(RM.1 hj).1
     have hout:¬ (i*sz+off≤i'*sz+j∧i'*sz+j<i*sz+off+ds.length):=by
      intro⟨a1,a2⟩;rcases TO hne with hlt|hgt
      ·have:(i'+1)*sz≤i*sz:=Sc _ hlt
       rw[Sz] at this;omega
      ·have:(i+1)*sz≤i'*sz:=Sc _ hgt
       rw[Sz] at this;omega
     rw[RI hout] at hu';exact hr i' r h2 j c u hj (by simpa using hu')
  ·intro h;exact h.elim
 ·intro h;exact h.elim
def EV:AV→Option Int
 |.d (.int .u8 n)=>some n
 |_=>none
def Np:TK→Bool
 |.int .u8=>true
 |_=>false
def k8(ti:TI)(x v:AV)(hp:List ABlk):MR:=
 match x with
 | .rp k sz i off=>
   (match hp[k]? with
   | some (.bytes l)=>
     (match EV v with
     |some n=>⟨sz=1∧off=0∧i<l.length∧0≤n∧n<256∧Np ti.kind=true,.any,hp.set k (.bytes (l.set i (UInt8.ofNat n.toNat)))⟩
     |none=>⟨False,.any,hp⟩)
   |_=>oQ ti x v hp)
 |_=>oQ ti x v hp
theorem LK{v:AV}{n:Int}(h:EV v=some n):v=.d (.int .u8 n):=by
 unfold EV at h;split at h
 ·injection h with h;subst h;rfl
 ·cases h
theorem N0{k:TK}(h:Np k=true):k=.int .u8:=by
 unfold Np at h;split at h
 ·rfl
 ·cases h
theorem wq {T:TypeId→TI} (hT:ap P T) (h:X5 E ρ hp w) (t:TypeId) (x v:AV) (ux uv:Value) (hx:RepV ρ (okB E ρ hp w) w x ux) (hv:RepV ρ (okB E ρ hp w) w v uv) (hk:(k8 (T t) x v hp).ok) :
  ∃ w',mc E ρ hp w (.ok .skip w') (k8 (T t) x v hp).v (k8 (T t) x v hp).hp∧(Instr.storeAt t ux uv).run P w=.ok () w':=by
 revert hk;unfold k8;split
 ·rename_i k sz i off
  split
  ·rename_i l hcs
   split
   ·rename_i n hn
    intro⟨h0,h00,hi,hn0,hn1,hu8⟩;subst h0;subst h00;have hv':=LK hn;subst hv';have hk8:=N0 hu8;have hko:(T t).kind≠.other:=by rw[hk8];simp
    have hag:(T t).agg=false:=by simp[TI.agg,hk8]
    cases hv with|d _ _ hv=>cases hv with|int _ _=>
    cases hx with|rp _ _ _ _ b m hkk=>
    obtain⟨q1,us,ty,fz,hw,hm,hfz,hone,hrl,hsz,hr⟩:=h.blk k _ b m hcs hkk (by simp);have hil:i<us.size:=by simp at hsz;omega
    obtain⟨ii,z,hi1,hi2,hi3,hi4,hi5⟩:=(aP hT hko).info
    have hs1:(T t).size=1:=by
     rw[hag] at hi5;simp only[Tb,Tj] at hi5
     have:=congrArg List.length hi5;simp only[RO,RQ,Sd] at this;rw[←(aP hT hko).zl];omega
    have hrun:=iu (P:=P) hT t hko b (i*1+0) ty fz us (.int .u8 n) hw (by rw[hs1];rfl) (by omega) hfz.1 (by intro x hx;simp[Value.cells] at hx;subst hx;rfl);have hw8:((UInt8.ofNat n.toNat).toNat:Int)=n:=by have:n.toNat%256=n.toNat:=Ts (by omega);simp[this];omega
    have hmap:(l.set i (UInt8.ofNat n.toNat)).map aL=(l.map aL).set i (aL (UInt8.ofNat n.toNat)):=by rw[UL]
    refine⟨_,⟨undef,_,_,.inr ⟨rfl,rfl⟩,HStep.set h hcs (by simp) (by simp) hkk hw (us':=(us.toList.take (i*1+0)++(Value.int .u8 n).cells.toList++us.toList.drop (i*1+0+(T t).size)).toArray) ?_ (fun l e=>⟨_,rfl⟩) ⟨?_,?_,?_,?_⟩,.any _⟩,hrun⟩
    ·simp[Value.cells,hs1];omega
    ·intro u hu
     simp only[Sp] at hu;rcases hu with(hu|hu)|hu
     ·exact hone u (St hu)
     ·simp[Value.cells] at hu;subst hu;rfl
     ·exact hone u (SJ hu)
    ·intro r hr';obtain⟨b,_,rfl⟩:=SV.1 hr';rfl
    ·simp[Value.cells,hs1] at hsz ⊢;omega
    ·intro i' r hi' j c u hj hu
     rw[hmap] at hi'
     have hu':(us.toList.take (i*1+0)++(Value.int .u8 n).cells.toList++us.toList.drop (i*1+0+(Value.int .u8 n).cells.toList.length))[i'*1+j]?=some u:=by
      have:(Value.int .u8 n).cells.toList.length=(T t).size:=by rw[hs1];rfl
      rw[this];simpa using hu
     rw[aX _ _ _ (by simp[Value.cells];omega)] at hu';rcases am hi' with⟨e,e',_⟩|⟨hne,h2⟩
     ·subst e;subst e'
      match j,hj with
      | 0,hj=>
        simp only[aL,We,Option.some.injEq] at hj;subst hj;rw[RJ (by simp[Value.cells])] at hu';simp[Value.cells] at hu';subst hu';rw[hw8];exact .int .u8 n
     ·have hj0:j=0:=by
       have:r.length=1:=hrl r (Sl h2)
       have:=(RM.1 hj).1;omega
      subst hj0;rw[RI (by simp[Value.cells];omega)] at hu';exact hr i' r h2 0 c u hj (by simpa using hu')
   ·intro h;exact h.elim
  ·intro hk;exact p8 hT h t _ v ux uv hx hv hk
 ·intro hk;exact p8 hT h t _ v ux uv hx hv hk
end
def srcRows(hp:List ABlk)(sz:Nat):AV→Prop×List (List DV)
 |.d (.sl sz' rows)=>(sz'=sz,rows)
 |.d (.str l)=>(sz=1,l.map aL)
 |.d (.sc (.slice none 0 0))=>(True,[])
 | .osl k sz' off n=>
   match hp[k]? with
   |some (.rows sz'' rs)=>(sz'=sz∧sz''=sz∧off+n≤rs.length,(rs.drop off).take n)
   |some (.full sz'' rs)=>(sz'=sz∧sz''=sz∧off+n≤rs.length,(rs.drop off).take n)
   |some (.bytes l)=>(sz'=sz∧1=sz∧off+n≤(l.map aL).length,((l.map aL).drop off).take n)
   |_=>(False,[])
 |_=>(False,[])
def A3:TK→Prop
 |.slice _=>True
 |.str=>True
 |_=>False
def wW (te:TI) (tk:TK) (hp:List ABlk) (x:AV):AV→MR
 | .d (.sc (.slice none 0 0))=>
   ⟨(srcRows hp te.size x).1∧A3 tk∧0<te.size∧0<te.bytes∧(te.kind matches .other)=false∧(srcRows hp te.size x).2.length*te.bytes≤140737488355328,
    .osl hp.length te.size 0 (srcRows hp te.size x).2.length,hp++[.rows te.size (srcRows hp te.size x).2]⟩
 | .osl k sz off n=>
   (match hp[k]? with
   | some (.rows sz' rs)=>
     ⟨sz=te.size∧sz'=te.size∧off=0∧n≤rs.length∧(srcRows hp te.size x).1∧A3 tk∧0<te.size∧0<te.bytes∧(te.kind matches .other)=false∧(n+(srcRows hp te.size x).2.length)*te.bytes≤140737488355328,
      .osl hp.length te.size 0 (n+(srcRows hp te.size x).2.length),hp.set k .dead++[.rows te.size (rs.take n++(srcRows hp te.size x).2)]⟩
   |_=>⟨False,.any,hp⟩)
 |_=>⟨False,.any,hp⟩
def lG(T:TypeId→TI)(t t':TypeId)(s x:AV)(hp:List ABlk):MR:=
 match (T t).kind with
 |.slice e=>wW (T e) (T t').kind hp x s
 |_=>⟨False,.any,hp⟩
section
variable {P:Program} {E:Ent} {ρ ρ' ρ2:List (Option (Nat×Nat))} {hp hp':List ABlk} {w w':World} {ok:Nat→Prop}
theorem eD(sz:Nat)(A:Option Addr)(W:World):(Builtin.firstCells sz 0 (.slice A 0 0)).run P W=.ok #[] W:=by cases A<;>simp[Builtin.firstCells,loadCells,loadCellsFrom]
def QM(P:Program)(ok:Nat→Prop)(w:World)(sz:Nat)(rows:List (List DV))(u:Value)(news:List Value):Prop:=
 news.length=rows.length*sz∧(∀ v,v∈news→v.oneCell'=true)∧(∀ r,r∈rows→r.length=sz)∧
 (∀(i:Nat) (r:List DV),rows[i]?=some r→∀(j:Nat) (c:DV) (v:Value),r[j]?=some c→news[i*sz+j]?=some v→X7 ok w c v)∧
 ∀ W:World,W.heap=w.heap→(Builtin.lenOf u).run P W=.ok rows.length W∧(Builtin.firstCells sz rows.length u).run P W=.ok news.toArray W
theorem iI{w W:World}(h:W.heap=w.heap)(a:Addr):W.cell? a=w.cell? a:=by simp[World.cell?,h]
theorem rm(hB:qb ρ ok w hp){sz:Nat}(hpos:0<sz){x:AV}{u:Value}(hx:RepV ρ ok w x u)(h:(srcRows hp sz x).1) :
  ∃ news,QM P ok w sz (srcRows hp sz x).2 u news:=by
 revert h;unfold srcRows;split
 ·rename_i sz' rows
  intro h0;simp only at h0;subst h0;cases hx with|d _ _ hx=>cases hx with|sl _ _ A cap f hcap hsz hc hr=>
  by_cases h0:rows.length=0
  ·have:rows=[]:=Sf h0
   subst this;refine⟨[],by simp,by simp,by simp,by simp,fun W hW=>⟨by simp[Builtin.lenOf],?_⟩⟩;cases A<;>simp[Builtin.firstCells,loadCells,loadCellsFrom]
  ·obtain⟨b,o,rfl,hb,hcell⟩:=hc (by omega)
   have hq:∀ q,q<rows.length*sz'→∃ r,rows[q/sz']?=some r∧q%sz'<r.length:=by
    intro q hq;have hd:q/sz'<rows.length:=by rw[Nat.div_lt_iff_lt_mul hpos];exact hq
    refine⟨rows[q/sz'],RH hd,?_⟩;rw[hsz _ (SD hd)];exact WW _ hpos
   refine⟨(List.range (rows.length*sz')).map fun q=>f (q/sz') (q%sz'),by simp,fun v hv=>?_,hsz,fun i r hi j c v hj hv=>?_,fun W hW=>⟨by simp[Builtin.lenOf],?_⟩⟩
   ·obtain⟨q,hq1,rfl⟩:=SV.1 hv
    obtain⟨r,hr1,hr2⟩:=hq q (by simpa using hq1);exact(hr _ r hr1 _ _ (RH hr2)).one
   ·have hjl:j<sz':=by rw[←hsz r (Sl hi)];exact(RM.1 hj).1
    rw[RS] at hv;obtain⟨q,hq1,rfl⟩:=RY.1 hv;obtain⟨hq2,hq3⟩:=RM.1 hq1;simp at hq3;subst hq3;have e1:(i*sz'+j)/sz'=i:=by rw[TS,Nat.add_mul_div_right _ _ hpos,Vu hjl,SO]
    have e2:(i*sz'+j)%sz'=j:=by rw[TS,Ul,Ts hjl]
    rw[e1,e2];exact hr i r hi j c hj
   ·simp only[Builtin.firstCells]
    exact run_loadCells W ⟨b,o,none⟩ (rows.length*sz') (fun q=>f (q/sz') (q%sz')) fun q hq1=>by
     obtain⟨r,hr1,hr2⟩:=hq q hq1;rw[TQ,iI hW]
     have:=hcell _ r hr1 _ _ (RH hr2);rwa[show q/sz'*sz'+q%sz'=q from by rw[Wp];exact Nat.div_add_mod q sz'] at this
 ·rename_i l
  intro h0;simp only at h0;subst h0;cases hx with|d _ _ hx=>cases hx with|str _=>
  refine⟨l.map fun b=>.int .u8 b.toNat,by simp,fun v hv=>?_,fun r hr=>?_,fun i r hi j c v hj hv=>?_,fun W hW=>⟨by simp[Builtin.lenOf,aW,lK],?_⟩⟩
  ·obtain⟨b,_,rfl⟩:=SV.1 hv;rfl
  ·obtain⟨b,_,rfl⟩:=SV.1 hr;rfl
  ·rw[RS] at hi
   obtain⟨b,hb,rfl⟩:=RY.1 hi
   match j with
   | 0=>
     simp[aL] at hj;subst hj;rw[RS] at hv;simp[hb] at hv;subst hv;exact .int _ _
   |j+1=>simp[aL] at hj
  ·have:(⟨l.toArray⟩:ByteArray).extract 0 l.length=⟨l.toArray⟩:=by rw[ji];simp
   simp[Builtin.firstCells,aW,this]
 ·cases hx with|d _ _ hx=>
  obtain⟨A,rfl⟩:=jd hx;intro _;exact⟨[],by simp,by simp,by simp,by simp,fun W hW=>⟨by simp[Builtin.lenOf],by have:=eD (P:=P) sz A W;simpa using this⟩⟩
 ·rename_i k sz' off n
  split
  ·rename_i sz'' rs hcs
   intro⟨h0,h1,hfit⟩;subst h0;subst h1;cases hx with
   | oslnil _ _ A hk=>
     refine⟨[],by simp,by simp,by simp,by simp,fun W hW=>⟨by simp[Builtin.lenOf],by have:=eD (P:=P) sz'' A W;simpa using this⟩⟩
   | osl _ _ _ _ b m cap hk hm hn=>
     obtain⟨us,ty,fz,hw,hum,hone,hrl,hsz,hr⟩:=hB.1 k _ b m hcs hk (by simp);have hlen:((rs.drop off).take n).length=n:=aJ _ _ _ hfit;have hbig:off*sz''+n*sz''≤us.size:=by have:(off+n)*sz''≤rs.length*sz'':=Sc _ hfit;rw[Sz] at this;omega
     have hnl:((us.toList.drop (off*sz'')).take (n*sz'')).length=n*sz'':=aJ _ _ _ (by simpa using hbig);refine⟨(us.toList.drop (off*sz'')).take (n*sz''),by rw[hnl,hlen],fun v hv=>hone v (fq hv),fun r hr'=>hrl r (fq hr'),fun i r hi j c v hj hv=>?_,fun W hW=>⟨by simp[Builtin.lenOf,hlen],?_⟩⟩
     ·have a1:=(ak _ _ _ _ _ hi).1
      have a2:=(ak _ _ _ _ _ hv).1;refine hr (off+i) r a1 j c v hj ?_;rw[Sz,SX];simpa using a2
     ·rw[hlen]
      simp only[Builtin.firstCells]
      have:=mZ (P:=P) W b (off*sz'') ((us.toList.drop (off*sz'')).take (n*sz'')) fun j v hj=>by have:=(ak _ _ _ _ _ hj).1;rw[iI hW,bc hw];simpa using this
      rwa[hnl] at this
  ·rename_i sz'' rs hcs
   intro⟨h0,h1,hfit⟩;subst h0;subst h1;cases hx with
   | oslnil _ _ A hk=>
     refine⟨[],by simp,by simp,by simp,by simp,fun W hW=>⟨by simp[Builtin.lenOf],by have:=eD (P:=P) sz'' A W;simpa using this⟩⟩
   | osl _ _ _ _ b m cap hk hm hn=>
     obtain⟨us,ty,fz,hw,hum,hone,hrl,hsz,hr⟩:=hB.1 k _ b m hcs hk (by simp);have hlen:((rs.drop off).take n).length=n:=aJ _ _ _ hfit;have hbig:off*sz''+n*sz''≤us.size:=by have:(off+n)*sz''≤rs.length*sz'':=Sc _ hfit;rw[Sz] at this;omega
     have hnl:((us.toList.drop (off*sz'')).take (n*sz'')).length=n*sz'':=aJ _ _ _ (by simpa using hbig);refine⟨(us.toList.drop (off*sz'')).take (n*sz''),by rw[hnl,hlen],fun v hv=>hone v (fq hv),fun r hr'=>hrl r (fq hr'),fun i r hi j c v hj hv=>?_,fun W hW=>⟨by simp[Builtin.lenOf,hlen],?_⟩⟩
     ·have a1:=(ak _ _ _ _ _ hi).1
      have a2:=(ak _ _ _ _ _ hv).1;refine hr (off+i) r a1 j c v hj ?_;rw[Sz,SX];simpa using a2
     ·rw[hlen]
      simp only[Builtin.firstCells]
      have:=mZ (P:=P) W b (off*sz'') ((us.toList.drop (off*sz'')).take (n*sz'')) fun j v hj=>by have:=(ak _ _ _ _ _ hj).1;rw[iI hW,bc hw];simpa using this
      rwa[hnl] at this
  ·rename_i l hcs
   intro⟨h0,h1,hfit⟩;subst h0;generalize hrs:l.map aL=rs at *
   cases hx with
   | oslnil _ _ A hk=>
     refine⟨[],by simp,by simp,by simp,by simp,fun W hW=>⟨by simp[Builtin.lenOf],by have:=eD (P:=P) sz' A W;simpa using this⟩⟩
   | osl _ _ _ _ b m cap hk hm hn=>
     obtain⟨us,ty,fz,hw,hum,hone,hrl,hsz,hr⟩:=hB.1 k _ b m hcs hk (by simp);rw[hrs] at hsz hr hrl;rw[h1] at hsz hr hrl;have hlen:((rs.drop off).take n).length=n:=aJ _ _ _ hfit;have hbig:off*sz'+n*sz'≤us.size:=by have:(off+n)*sz'≤rs.length*sz':=Sc _ hfit;rw[Sz] at this;omega
     have hnl:((us.toList.drop (off*sz')).take (n*sz')).length=n*sz':=aJ _ _ _ (by simpa using hbig);refine⟨(us.toList.drop (off*sz')).take (n*sz'),by rw[hnl,hlen],fun v hv=>hone v (fq hv),fun r hr'=>hrl r (fq hr'),fun i r hi j c v hj hv=>?_,fun W hW=>⟨by simp[Builtin.lenOf,hlen],?_⟩⟩
     ·have a1:=(ak _ _ _ _ _ hi).1
      have a2:=(ak _ _ _ _ _ hv).1;refine hr (off+i) r a1 j c v hj ?_;rw[Sz,SX];simpa using a2
     ·rw[hlen]
      simp only[Builtin.firstCells]
      have:=mZ (P:=P) W b (off*sz') ((us.toList.drop (off*sz')).take (n*sz')) fun j v hj=>by have:=(ak _ _ _ _ _ hj).1;rw[iI hW,bc hw];simpa using this
      rwa[hnl] at this
  ·intro h;exact h.elim
 ·intro h;exact h.elim
theorem HStep.move(h:X5 E ρ hp w){k:Nat}{x:ABlk}(hx:hp[k]?=some x)(hd:x≠.dead){p:Option (Nat×Nat)}(hk:ρ[k]?=some p) :
  HStep E ρ hp w (ρ++[p]) (hp.set k .dead++[x]) w:=by
 have hkl:k<hp.length:=(RM.1 hx).1;have hset:(hp.set k .dead).length=hp.length:=by simp
 have hup:∀(k:Nat) (q:Option (Nat×Nat)),ρ[k]?=some q→(ρ++[p])[k]?=some q:=fun k q hk=>get_append_old hk
 -- who is live now was so before
 have back:∀(j:Nat) (y:ABlk) (q:Option (Nat×Nat)),(hp.set k .dead++[x])[j]?=some y→y≠.dead→(ρ++[p])[j]?=some q→
   (j≠k∧j<hp.length∧hp[j]?=some y∧ρ[j]?=some q)∨(j=hp.length∧y=x∧q=p):=by
  intro j y q hy hyd hj;rcases aI hy with⟨h1,h2⟩|⟨h1,h2⟩
  ·rcases am h2 with⟨_,e,_⟩|⟨hne,h3⟩
   ·exact absurd e hyd
   ·rcases aI hj with⟨_,h4⟩|⟨h4,_⟩
    ·exact .inl ⟨hne,by rw[hset] at h1;exact h1,h3,h4⟩
    ·have:=h.len;rw[hset] at h1;omega
  ·rcases aI hj with⟨h3,_⟩|⟨_,h4⟩
   ·have:=h.len;rw[hset] at h1;omega
   ·exact .inr ⟨by rw[h1,hset],h2,h4⟩
 have hlive:∀ b,fH (ρ++[p]) (hp.set k .dead++[x]) b→fH ρ hp b:=by
  intro b ⟨j,y,m,hy,hyd,hj⟩;rcases back j y _ hy hyd hj with⟨_,_,h3,h4⟩|⟨_,_,h4⟩
  ·exact⟨j,y,m,h3,hyd,h4⟩
  ·exact⟨k,x,m,hx,hd,by rw[hk,h4]⟩
 have hok:∀ b,okB E ρ hp w b→okB E (ρ++[p]) (hp.set k .dead++[x]) w b∧w.heap[b]?=w.heap[b]?:=fun b ⟨h1,h2,h3⟩=>⟨⟨h1,h2,fun hl=>h3 (hlive b hl)⟩,rfl⟩
 refine⟨⟨by simp[h.len],fun j y b m hy hj hyd=>?_,fun j y hy hj=>?_,fun j j' y y' b m m' hy hy' hyd hyd' hj hj'=>?_,h.fr⟩,hup,hok⟩
 ·rcases back j y _ hy hyd hj with⟨_,_,h3,h4⟩|⟨_,e,h4⟩
  ·obtain⟨q1,o,q2,q3⟩:=h.obj j y b m h3 h4 hyd
   exact⟨q1,o,q2,q3.mono hup hok⟩
  ·subst e
   obtain⟨q1,o,q2,q3⟩:=h.obj k y b m hx (by rw[hk,h4]) hd;exact⟨q1,o,q2,q3.mono hup hok⟩
 ·by_cases hyd:y=.dead
  ·exact .inl hyd
  ·rcases back j y _ hy hyd hj with⟨_,_,h3,h4⟩|⟨_,e,h4⟩
   ·exact h.nil j y h3 h4
   ·subst e;exact h.nil k y hx (by rw[hk,h4])
 ·rcases back j y _ hy hyd hj with⟨a1,a2,a3,a4⟩|⟨a1,a2,a3⟩
  ·rcases back j' y' _ hy' hyd' hj' with⟨b1,b2,b3,b4⟩|⟨b1,b2,b3⟩
   ·exact h.inj j j' y y' b m m' a3 b3 hyd hyd' a4 b4
   ·exact absurd (h.inj j k y x b m m' a3 hx hyd hd a4 (by rw[hk,b3])) a1
  ·rcases back j' y' _ hy' hyd' hj' with⟨b1,b2,b3,b4⟩|⟨b1,b2,b3⟩
   ·exact absurd (h.inj j' k y' x b m' m b3 hx hyd' hd b4 (by rw[hk,a3])) b1
   ·omega
def Ef(P:Program)(t:TypeId):Prop:=∃ d,P.underlying t=some d∧∀ k,d≠.int k
theorem fS{T:TypeId→TI}(hT:ap P T){t:TypeId}(h:A3 (T t).kind):Ef P t:=by
 cases e:(T t).kind with
 |slice x=>exact⟨_,aC hT e,fun k hk=>by cases hk⟩
 |str=>exact⟨_,gB hT e,fun k hk=>by cases hk⟩
 |_=>rw[e] at h;exact h.elim
theorem kI(w:World)(t xt ty e:TypeId)(i:TypeInfo)(ht:P.underlying t=some (.slice e))(hi:P.info? e=some i)(hxt:Ef P xt)
  (g o sLen sCap:Nat) (cur:Array Value) (tt:TypeId) (fz:Nat×Nat) (hg:w.heap[g]?=some (.cells cur tt fz)) (hfz:wj cur fz) (x:Value) (m:Nat) (news:List Value)
  (hlen:(Builtin.lenOf x).run P w=.ok m w) (hf:(Builtin.firstCells i.size m x).run P w=.ok news.toArray w) (h1:∀ u∈news,u.oneCell'=true)
  (hroom:sLen+m≤sCap) (hfit:o+sLen*i.size+news.length≤cur.size) :
  (Builtin.append_ #[t,xt] ty #[.slice (some ⟨g,o,none⟩) sLen sCap,x]).run P w =
   .ok (.slice (some ⟨g,o,none⟩) (sLen+m) sCap) (setB w g (.cells (cur.toList.take (o+sLen*i.size)++news++cur.toList.drop (o+sLen*i.size+news.length)).toArray tt fz)):=by
 obtain⟨d,hd,hdn⟩:=hxt;have hst:=cS (P:=P) g (o+sLen*i.size) tt fz news 0 cur w hg (by simpa using hfit) hfz h1;simp only[S8] at hst;have hm:(match d with|.int _=>true|_=>false)=false:=by cases d<;>first|rfl|exact absurd rfl (hdn _)
 simp[Builtin.append_,R4 ht,R4 hd,hm,sizeOf,typeInfo,hi,hlen,hroom,hf,TQ,hst]
theorem gK(w:World)(t xt ty e:TypeId)(i:TypeInfo)(z:Value)(ht:P.underlying t=some (.slice e))(hi:P.info? e=some i)(hz:i.zero=some z)(hxt:Ef P xt)(hby:0<i.bytes)
  (base:Option Addr) (sLen sCap:Nat) (olds:List Value) (holds:∀ W:World,W.heap=w.heap→(Builtin.firstCells i.size sLen (.slice base sLen sCap)).run P W=.ok olds.toArray W) (x:Value) (m:Nat) (news:List Value)
  (hsrc:∀ W:World,W.heap=w.heap→(Builtin.lenOf x).run P W=.ok m W∧(Builtin.firstCells i.size m x).run P W=.ok news.toArray W)
  (hg:sCap<sLen+m) (hb:(sLen+m)*i.bytes≤140737488355328) :
  (Builtin.append_ #[t,xt] ty #[.slice base sLen sCap,x]).run P w =
   .ok (.slice (some ⟨w.heap.size,0,none⟩) (sLen+m) (grownCap w (sLen+m) sCap e))
    (w.drew.alloc (.cells (olds.toArray++news.toArray++Builtin.zeroCells z.cells (grownCap w (sLen+m) sCap e-(sLen+m))) e)):=by
 obtain⟨d,hd,hdn⟩:=hxt;have hn:¬ (sLen+m≤sCap):=by omega
 have hfit:=growslice_fits (old:=sCap) hg hb;have hfit':¬ (281474976710656<Builtin.nextslicecap (sLen+m) sCap*i.bytes):=by omega
 have hb0:i.bytes≠0:=by omega
 have e1:=(hsrc w rfl).1;have e2:=(hsrc w.drew rfl).2;have e3:=holds w.drew rfl;have hm:(match d with|.int _=>true|_=>false)=false:=by cases d<;>first|rfl|exact absurd rfl (hdn _)
 simp[Builtin.append_,R4 ht,R4 hd,hm,sizeOf,typeInfo,hi,hz,e1,hn,hfit',hb0,zeroValue,Question.forced,e2,e3,newRow,grownCap,←Array.append_assoc]
theorem gY{T:TypeId→TI}(hT:ap P T){e:TypeId}(hk:(T e).kind≠.other){z:Value}(hz:z.cells.toList=(T e).zero.map DV.val)(n:Nat)(u:Value)(hu:u∈(Builtin.zeroCells z.cells n).toList):u.oneCell'=true:=by
 have hpos:∀ i:Nat,i<n*z.cells.size→i%z.cells.size<z.cells.size:=fun i hi=>WW _ (by
  rcases TC z.cells.size with h|h
  ·rw[h] at hi;omega
  ·exact h)
 simp only[Builtin.zeroCells,Array.toList_map,SV] at hu;obtain⟨i,hi,rfl⟩:=hu;have hi':i<n*z.cells.size:=by simpa using hi
 have hm:=hpos i hi'
 have:z.cells[i%z.cells.size]!∈z.cells.toList:=by rw[getElem!_pos z.cells _ hm];exact V5 hm
 rw[hz] at this;exact kG hT hk _ this
theorem nL{ok:Nat→Prop}{us spare:Array Value}{sz:Nat}{rs src:List (List DV)}{olds news:List Value}(hlo:olds.length=rs.length*sz)(hlr:∀ r,r∈rs→r.length=sz)
  (ho1:∀ v,v∈olds→v.oneCell'=true) (hor:∀(i:Nat) (r:List DV),rs[i]?=some r→∀(j:Nat) (c:DV) (v:Value),r[j]?=some c→olds[i*sz+j]?=some v→X7 ok w c v)
  (hln:news.length=src.length*sz) (hls:∀ r,r∈src→r.length=sz) (hn1:∀ v,v∈news→v.oneCell'=true)
  (hnr:∀(i:Nat) (r:List DV),src[i]?=some r→∀(j:Nat) (c:DV) (v:Value),r[j]?=some c→news[i*sz+j]?=some v→X7 ok w c v)
  (hs1:∀ v,v∈spare.toList→v.oneCell'=true) (hus:us.toList=olds++news++spare.toList):eo ρ ok w us (.rows sz (rs++src)):=by
 refine⟨fun u hu=>?_,fun r hr=>?_,?_,fun i r hi j c u hj hu=>?_⟩
 ·rw[hus] at hu
  simp only[Sp] at hu;rcases hu with(hu|hu)|hu
  ·exact ho1 u hu
  ·exact hn1 u hu
  ·exact hs1 u hu
 ·rcases Sp.1 hr with hr|hr
  ·exact hlr r hr
  ·exact hls r hr
 ·rw[←Sy,hus]
  simp only[RL,hlo,hln,Sz];omega
 ·have hjl:j<sz:=by
   have hr:r∈rs++src:=Sl hi
   have:r.length=sz:=by
    rcases Sp.1 hr with hr|hr
    ·exact hlr r hr
    ·exact hls r hr
   rw[←this];exact(RM.1 hj).1
  rw[←Ur,hus,Sq] at hu
  by_cases hlt:i<rs.length
  ·rw[R2 hlt] at hi
   have:i*sz+j<olds.length:=by
    rw[hlo]
    have:(i+1)*sz≤rs.length*sz:=Sc _ hlt;rw[Sz] at this;omega
   rw[R2 this] at hu;exact hor i r hi j c u hj hu
  ·rw[RT (by omega)] at hi
   have hil:i-rs.length<src.length:=(RM.1 hi).1
   have e1:i*sz+j-olds.length=(i-rs.length)*sz+j:=by
    rw[hlo,Nat.sub_mul]
    have:rs.length*sz≤i*sz:=Sc _ (by omega);omega
   have e2:(i-rs.length)*sz+j<news.length:=by
    rw[hln]
    have:(i-rs.length+1)*sz≤src.length*sz:=Sc _ hil;rw[Sz] at this;omega
   have:olds.length≤i*sz+j:=by
    rw[hlo]
    have:rs.length*sz≤i*sz:=Sc _ (by omega);omega
   rw[RT this,e1,R2 e2] at hu;exact hnr _ r hi j c u hj hu
theorem A5 {T:TypeId→TI} (hT:ap P T) (h:X5 E ρ hp w) (t xt ty e:TypeId) (ht:P.underlying t=some (.slice e)) (s x:AV) (us ux:Value)
  (hs:RepV ρ (okB E ρ hp w) w s us) (hx:RepV ρ (okB E ρ hp w) w x ux) (hk:(wW (T e) (T xt).kind hp x s).ok) :
  ∃ u w',mc E ρ hp w (.ok (.value u) w') (wW (T e) (T xt).kind hp x s).v (wW (T e) (T xt).kind hp x s).hp∧(Builtin.append_ #[t,xt] ty #[us,ux]).run P w=.ok u w':=by
 revert hk;unfold wW;split
 ·intro⟨hsrc,hty,hpos,hby,hko,hbig⟩
  have hko:=an hko;cases hs with|d _ _ hs=>
  obtain⟨A,rfl⟩:=jd hs;obtain⟨i,z,hi1,hi2,hi3,hi4,hi5⟩:=(aP hT hko).info;obtain⟨z',hz1,hz2,_⟩:=eZ (P:=P) hT hko;have hzz:z'=z:=by have:=hz1 w;simp[zeroValue,typeInfo,hi1,hi4] at this;exact this.symm
  subst hzz;obtain⟨news,n1,n2,n3,n4,n5⟩:=rm (P:=P) h.blks hpos hx hsrc;generalize hrows:(srcRows hp (T e).size x).2=src at *
  by_cases h0:src.length=0
  ·have:src=[]:=Sf h0
   subst this;have hst:=Xo h (T e).size;refine⟨.slice A 0 0,w,⟨_,w,_,.inl rfl,hst,?_⟩,?_⟩
   ·have:(ρ++[none])[hp.length]?=some none:=by rw[←h.len];simp
    exact .oslnil _ _ A this
   ·have e1:=(n5 w rfl).1
    have e2:=(n5 w rfl).2;obtain⟨d,hd,hdn⟩:=fS hT hty;have hm:(match d with|.int _=>true|_=>false)=false:=by cases d<;>first|rfl|exact absurd rfl (hdn _)
    simp only[Sd] at e1 e2;have hnn:news=[]:=Sf (by simpa using n1);subst hnn;cases A<;>simp[Builtin.append_,R4 ht,R4 hd,hm,sizeOf,typeInfo,hi1,hi2,e1,e2,storeCells]
  ·have hrun:=gK (P:=P) w t xt ty e i z' ht hi1 hi4 (fS hT hty) (by rw[hi3];exact hby) A 0 0 [] (fun W _=>by have:=eD (P:=P) i.size A W;simpa using this) ux src.length news
    (fun W hW=>by rw[hi2];exact n5 W hW) (by omega) (by rw[SO,hi3];exact hbig)
   rw[SO] at hrun;have hd0:Below w.heap.size w w.drew:=⟨rfl,rfl,rfl,RP _,fun _ _=>rfl⟩;have hge:=WE w src.length 0 e;have hst0:=HStep.below h hd0;have hzs:z'.cells.size=(T e).size:=by rw[←Sy,hz2,RO,(aP hT hko).zl]
   have hst1:=HStep.push hst0.heap (([]:List Value).toArray++news.toArray++Builtin.zeroCells z'.cells (grownCap w src.length 0 e-src.length)) e (0,0) (.rows (T e).size src) (ue _) (oA _ _)
    (by
     have:=nL (ρ:=ρ) (w:=w.drew) (ok:=okB E ρ hp w.drew) (us:=([]:List Value).toArray++news.toArray++Builtin.zeroCells z'.cells (grownCap w src.length 0 e-src.length)) (spare:=Builtin.zeroCells z'.cells (grownCap w src.length 0 e-src.length)) (sz:=(T e).size) (rs:=[]) (src:=src) (olds:=[]) (news:=news)
      (by simp) (by simp) (by simp) (by simp) n1 n3 n2 (fun i r hi j c v hj hv=>(n4 i r hi j c v hj hv).mono (gj hd0)) (fun v hv=>gY hT hko hz2 _ v hv) (by simp)
     simpa using this)
   refine⟨_,_,⟨_,_,_,.inl rfl,hst0.trans hst1,?_⟩,hrun⟩;have hsz:(([]:List Value).toArray++news.toArray++Builtin.zeroCells z'.cells (grownCap w src.length 0 e-src.length)).size=(0+grownCap w src.length 0 e)*(T e).size:=by simp only[V4,T7,Sd,VS,hzs,n1];rw[SO,SO,←Sz];congr 1;omega
   have:=RepV.osl (ρ:=ρ++[some (w.drew.heap.size,(([]:List Value).toArray++news.toArray++Builtin.zeroCells z'.cells (grownCap w src.length 0 e-src.length)).size)])
    (ok:=okB E (ρ++[some (w.drew.heap.size,(([]:List Value).toArray++news.toArray++Builtin.zeroCells z'.cells (grownCap w src.length 0 e-src.length)).size)]) (hp++[.rows (T e).size src]) (pushB w.drew (.cells (([]:List Value).toArray++news.toArray++Builtin.zeroCells z'.cells (grownCap w src.length 0 e-src.length)) e)))
    (w:=pushB w.drew (.cells (([]:List Value).toArray++news.toArray++Builtin.zeroCells z'.cells (grownCap w src.length 0 e-src.length)) e))
    hp.length (T e).size 0 src.length w.drew.heap.size _ (grownCap w src.length 0 e) (by rw[←h.len];simp) hsz.symm hge
   simpa using this
 ·rename_i k sz off n
  split
  ·rename_i sz' rs hcs
   intro⟨hs1,hs2,hoff,hnl,hsrc,hty,hpos,hby,hko,hbig⟩;subst hs1;subst hs2;subst hoff;have hko:=an hko;obtain⟨i,z,hi1,hi2,hi3,hi4,hi5⟩:=(aP hT hko).info;obtain⟨z',hz1,hz2,_⟩:=eZ (P:=P) hT hko;have hzz:z'=z:=by have:=hz1 w;simp[zeroValue,typeInfo,hi1,hi4] at this;exact this.symm
   subst hzz;obtain⟨news,n1,n2,n3,n4,n5⟩:=rm (P:=P) h.blks hpos hx hsrc
   -- what the row holds till now
   obtain⟨olds,o1,o2,o3,o4,o5⟩:=rm (P:=P) h.blks hpos hs (by simp only[srcRows,hcs];exact⟨Yj,Yj,by omega⟩);simp only[srcRows,hcs,Tw] at o1 o2 o3 o4 o5;have hon:(rs.take n).length=n:=by simp;omega
   rw[hon] at o1 o5;generalize hrows:(srcRows hp (T e).size x).2=src at *
   have hd0:Below w.heap.size w w.drew:=⟨rfl,rfl,rfl,RP _,fun _ _=>rfl⟩;have hst0:=HStep.below h hd0;have hzs:z'.cells.size=(T e).size:=by rw[←Sy,hz2,RO,(aP hT hko).zl]
   have grow:∀(base:Option Addr) (cap:Nat),us=.slice base n cap→cap<n+src.length→
     ∃ u w',mc E ρ hp w (.ok (.value u) w') (.osl hp.length (T e).size 0 (n+src.length)) (hp.set k .dead++[.rows (T e).size (rs.take n++src)])∧(Builtin.append_ #[t,xt] ty #[us,ux]).run P w=.ok u w':=by
    intro base cap hus hgc;subst hus
    have hrun:=gK (P:=P) w t xt ty e i z' ht hi1 hi4 (fS hT hty) (by rw[hi3];exact hby) base n cap olds (fun W hW=>by rw[hi2];exact(o5 W hW).2) ux src.length news
     (fun W hW=>by rw[hi2];exact n5 W hW) hgc (by rw[hi3];exact hbig)
    have hge:=WE w (n+src.length) cap e
    have hst1:=HStep.push hst0.heap (olds.toArray++news.toArray++Builtin.zeroCells z'.cells (grownCap w (n+src.length) cap e-(n+src.length))) e (0,0) (.rows (T e).size (rs.take n++src)) (ue _) (oA _ _)
     (nL (ρ:=ρ) (w:=w.drew) (ok:=okB E ρ hp w.drew) (spare:=Builtin.zeroCells z'.cells (grownCap w (n+src.length) cap e-(n+src.length))) (olds:=olds) (news:=news)
      (by rw[hon];exact o1) o3 o2 (fun i r hi j c v hj hv=>(o4 i r hi j c v hj hv).mono (gj hd0)) n1 n3 n2 (fun i r hi j c v hj hv=>(n4 i r hi j c v hj hv).mono (gj hd0)) (fun v hv=>gY hT hko hz2 _ v hv) (by simp))
    have hst2:=Xp hst1.heap k;have hkl:k<hp.length:=(RM.1 hcs).1;rw[VB _ _ hkl] at hst2;refine⟨_,_,⟨_,_,_,.inl rfl,(hst0.trans hst1).trans hst2,?_⟩,hrun⟩;have hsz:(olds.toArray++news.toArray++Builtin.zeroCells z'.cells (grownCap w (n+src.length) cap e-(n+src.length))).size=(0+grownCap w (n+src.length) cap e)*(T e).size:=by simp only[V4,T7,VS,hzs,n1,o1];rw[SO,←Sz,←Sz];congr 1;omega
    have:=RepV.osl (ρ:=ρ++[some (w.drew.heap.size,(olds.toArray++news.toArray++Builtin.zeroCells z'.cells (grownCap w (n+src.length) cap e-(n+src.length))).size)])
     (ok:=okB E (ρ++[some (w.drew.heap.size,(olds.toArray++news.toArray++Builtin.zeroCells z'.cells (grownCap w (n+src.length) cap e-(n+src.length))).size)]) (hp.set k .dead++[.rows (T e).size (rs.take n++src)]) (pushB w.drew (.cells (olds.toArray++news.toArray++Builtin.zeroCells z'.cells (grownCap w (n+src.length) cap e-(n+src.length))) e)))
     (w:=pushB w.drew (.cells (olds.toArray++news.toArray++Builtin.zeroCells z'.cells (grownCap w (n+src.length) cap e-(n+src.length))) e))
     hp.length (T e).size 0 (n+src.length) w.drew.heap.size _ (grownCap w (n+src.length) cap e) (by rw[←h.len];simp) hsz.symm hge
    simpa using this
   cases hs with
   | oslnil _ _ A hkk=>
     have hrs:rs=[]:=by
      rcases h.nil k _ hcs hkk with h1|⟨_,h1⟩
      ·cases h1
      ·injection h1
     subst hrs
     by_cases h0:src.length=0
     ·have:src=[]:=Sf h0
      subst this;have hst:=HStep.move h hcs (by simp) hkk;refine⟨.slice A 0 0,w,⟨_,w,_,.inl rfl,by simpa using hst,?_⟩,?_⟩
      ·have:(ρ++[none])[hp.length]?=some none:=by rw[←h.len];simp
       exact .oslnil _ _ A this
      ·have e1:=(n5 w rfl).1
       have e2:=(n5 w rfl).2;obtain⟨d,hd,hdn⟩:=fS hT hty;have hm:(match d with|.int _=>true|_=>false)=false:=by cases d<;>first|rfl|exact absurd rfl (hdn _)
       simp only[Sd] at e1 e2;have hnn:news=[]:=Sf (by simpa using n1);subst hnn;cases A<;>simp[Builtin.append_,R4 ht,R4 hd,hm,sizeOf,typeInfo,hi1,hi2,e1,e2,storeCells]
     ·exact grow A 0 rfl (by omega)
   | osl _ _ _ _ b m cap hkk hm hn=>
     by_cases hroom:n+src.length≤cap
     ·obtain⟨q1,cur,tt,fz,hw,hcm,hfz,hone,hrl,hsz,hr⟩:=h.blk k _ b m hcs hkk (by simp)
      have hcap:cap*(T e).size≤cur.size:=by rw[hcm];rw[SO] at hm;exact Ux hm
      have hfit:n*(T e).size+news.length≤cur.size:=by rw[n1,←Sz];exact R8 (Sc _ hroom) hcap
      have e0:=n5 w rfl;have hrun:=kI (P:=P) w t xt ty e i ht hi1 (fS hT hty) b 0 n cap cur tt fz hw hfz.1 ux src.length news e0.1 (by rw[hi2];exact e0.2) n2 hroom (by rw[hi2,SO];exact hfit);rw[hi2,SO] at hrun
      have hst1 := HStep.set h hcs (by simp) (x':=.rows (T e).size (rs.take n++src)) (by simp) hkk hw (us':=(cur.toList.take (n*(T e).size)++news++cur.toList.drop (n*(T e).size+news.length)).toArray) (by simp;omega) (fun l e=>by cases e)
       (by
        have hcl:(cur.toList.take (n*(T e).size)).length=n*(T e).size:=by simp;omega
        exact nL (ρ:=ρ) (w:=w) (ok:=okB E ρ hp w) (spare:=(cur.toList.drop (n*(T e).size+news.length)).toArray) (olds:=cur.toList.take (n*(T e).size)) (news:=news)
         (by rw[hcl,hon]) (fun r hr'=>hrl r (St hr')) (fun v hv=>hone v (St hv))
         (fun i r hi j c v hj hv=>by
          rw[Tc] at hi hv;split at hi
          ·split at hv
           ·exact hr i r hi j c v hj (by simpa using hv)
           ·cases hv
          ·cases hi)
         n1 n3 n2 n4 (fun v hv=>hone v (SJ (by simpa using hv))) (by simp))
      have hgk:(hp.set k (.rows (T e).size (rs.take n++src)))[k]?=some (.rows (T e).size (rs.take n++src)):=by have:=(RM.1 hcs).1;simp[this]
      have hst2:=HStep.move hst1.heap hgk (by simp) hkk;rw[TT] at hst2;refine⟨_,_,⟨_,_,_,.inl rfl,hst1.trans hst2,?_⟩,by simpa using hrun⟩
      have:=RepV.osl (ρ:=ρ++[some (b,m)]) (ok:=okB E (ρ++[some (b,m)]) (hp.set k .dead++[.rows (T e).size (rs.take n++src)]) (setB w b (.cells (cur.toList.take (n*(T e).size)++news++cur.toList.drop (n*(T e).size+news.length)).toArray tt fz)))
       (w:=setB w b (.cells (cur.toList.take (n*(T e).size)++news++cur.toList.drop (n*(T e).size+news.length)).toArray tt fz)) hp.length (T e).size 0 (n+src.length) b m cap (by rw[←h.len];simp) hm hroom
      simpa using this
     ·exact grow (some ⟨b,0,none⟩) cap (by simp) (by omega)
  ·intro h;exact h.elim
 ·intro h;exact h.elim
theorem oa{T:TypeId→TI}(hT:ap P T)(h:X5 E ρ hp w)(t xt ty:TypeId)(s x:AV)(us ux:Value)
  (hs:RepV ρ (okB E ρ hp w) w s us) (hx:RepV ρ (okB E ρ hp w) w x ux) (hk:(lG T t xt s x hp).ok) :
  ∃ u w',mc E ρ hp w (.ok (.value u) w') (lG T t xt s x hp).v (lG T t xt s x hp).hp∧(Builtin.append_ #[t,xt] ty #[us,ux]).run P w=.ok u w':=by
 revert hk;unfold lG;split
 ·rename_i e hke;intro hk;exact A5 hT h t xt ty e (aC hT hke) s x us ux hs hx hk
 ·intro h;exact h.elim
end
def srcApp(te:TI)(tk:TK)(hp:List ABlk)(x:AV):Prop×List (List DV):=
 match tk,x with
 |.int _,.d (.int _ m)=>(0<m,List.replicate m.toNat te.zero)
 |_,_=>(A3 tk∧(srcRows hp te.size x).1,(srcRows hp te.size x).2)
def DH:TK→Bool
 |.int _=>true
 |_=>false
def nO(te:TI)(tk:TK)(hp:List ABlk)(x:AV)(k sz sz' off n:Nat)(rs:List (List DV)):MR:=
 ⟨sz=te.size∧sz'=te.size∧off=0∧n≤rs.length∧(srcApp te tk hp x).1∧(DH tk=true→rs.length<n+(srcApp te tk hp x).2.length)∧0<te.size∧0<te.bytes∧(te.kind matches .other)=false∧(n+(srcApp te tk hp x).2.length)*te.bytes≤140737488355328,
  if n+(srcApp te tk hp x).2.length≤rs.length then .osl k te.size 0 (n+(srcApp te tk hp x).2.length) else .osl hp.length te.size 0 (n+(srcApp te tk hp x).2.length),
  if n+(srcApp te tk hp x).2.length≤rs.length then hp.set k (.full te.size (rs.take n++(srcApp te tk hp x).2++rs.drop (n+(srcApp te tk hp x).2.length))) else hp++[.rows te.size (rs.take n++(srcApp te tk hp x).2)]⟩
def io(T:TypeId→TI)(t t':TypeId)(s x:AV)(hp:List ABlk):MR:=
 match (T t).kind,s with
 | .slice e,.osl k sz off n=>
   (match hp[k]? with
   |some (.full sz' rs)=>nO (T e) (T t').kind hp x k sz sz' off n rs
   |_=>lG T t t' s x hp)
 |_,_=>lG T t t' s x hp
def oY(te:TI)(src:Prop×List (List DV))(k sz sz' off n:Nat)(rs:List (List DV))(hp:List ABlk)(f:List (List DV)→ABlk):MR:=
 ⟨sz=te.size∧sz'=te.size∧0<te.size∧off+n≤rs.length∧src.1∧(te.kind matches .other)=false,I ((src.2.take n).length:Int),hp.set k (f (rs.take off++src.2.take n++rs.drop (off+(src.2.take n).length)))⟩
def xZ:TK→Prop
 |.slice _=>True
 |_=>False
def iO(te:TI)(k sz off n:Nat)(cs:List AV)(s:AV)(hp:List ABlk):MR:=
 match s with
 | .osl k' sz' off' n'=>
   (match hp[k']? with
   |some (.cells cs')=>⟨te.size=1∧sz=1∧sz'=1∧(te.kind matches .other)=false∧off+min n n'≤cs.length∧off'+min n n'≤cs'.length,I ((min n n':Nat):Int),hp.set k (.cells (cs.take off++(cs'.drop off').take (min n n')++cs.drop (off+min n n')))⟩
   |_=>⟨False,.any,hp⟩)
 |_=>⟨False,.any,hp⟩
def rN(T:TypeId→TI)(t t':TypeId)(d s:AV)(hp:List ABlk):MR:=
 match (T t).kind,d with
 | .slice e,.osl k sz off n=>
   (match hp[k]? with
   |some (.rows sz' rs)=>oY (T e) (xZ (T t').kind∧(srcRows hp (T e).size s).1,(srcRows hp (T e).size s).2) k sz sz' off n rs hp (.rows sz')
   |some (.full sz' rs)=>oY (T e) (xZ (T t').kind∧(srcRows hp (T e).size s).1,(srcRows hp (T e).size s).2) k sz sz' off n rs hp (.full sz')
   |some (.cells cs)=>iO (T e) k sz off n cs s hp
   |_=>⟨False,.any,hp⟩)
 |_,_=>⟨False,.any,hp⟩
def lC(te:TI)(k sz sz' off n:Nat)(rs:List (List DV))(hp:List ABlk)(f:List (List DV)→ABlk):MR:=
 ⟨sz=te.size∧sz'=te.size∧0<te.size∧off+n≤rs.length∧(te.kind matches .other)=false,.any,hp.set k (f (rs.take off++List.replicate n te.zero++rs.drop (off+n)))⟩
def mH(T:TypeId→TI)(t:TypeId)(s:AV)(hp:List ABlk):MR:=
 match (T t).kind,s with
 | .slice e,.osl k sz off n=>
   (match hp[k]? with
   |some (.rows sz' rs)=>lC (T e) k sz sz' off n rs hp (.rows sz')
   |some (.full sz' rs)=>lC (T e) k sz sz' off n rs hp (.full sz')
   |_=>⟨False,.any,hp⟩)
 |.slice _,.d (.sl _ [])=>⟨True,.any,hp⟩
 |.slice _,.d (.sc (.slice none 0 0))=>⟨True,.any,hp⟩
 |_,_=>⟨False,.any,hp⟩
section
variable {P:Program} {E:Ent} {ρ ρ' ρ2:List (Option (Nat×Nat))} {hp hp':List ABlk} {w w':World} {ok:Nat→Prop}
theorem sr{us:Array Value}{sz off:Nat}{rs nr:List (List DV)}{news:List Value}(hone:∀ u,u∈us.toList→u.oneCell'=true)(hrl:∀ r,r∈rs→r.length=sz)(hsz:rs.length*sz≤us.size)
  (hr:∀(i:Nat) (r:List DV),rs[i]?=some r→∀(j:Nat) (c:DV) (u:Value),r[j]?=some c→us[i*sz+j]?=some u→X7 ok w c u)
  (hnl:news.length=nr.length*sz) (hn1:∀ v,v∈news→v.oneCell'=true) (hnr:∀ r,r∈nr→r.length=sz)
  (hn:∀(i:Nat) (r:List DV),nr[i]?=some r→∀(j:Nat) (c:DV) (v:Value),r[j]?=some c→news[i*sz+j]?=some v→X7 ok w c v) (hfit:off+nr.length≤rs.length) :
  let us':=(us.toList.take (off*sz)++news++us.toList.drop (off*sz+news.length)).toArray
  us'.size=us.size∧(∀ u,u∈us'.toList→u.oneCell'=true)∧(∀ r,r∈rs.take off++nr++rs.drop (off+nr.length)→r.length=sz)∧(rs.take off++nr++rs.drop (off+nr.length)).length=rs.length∧
   ∀(i:Nat) (r:List DV),(rs.take off++nr++rs.drop (off+nr.length))[i]?=some r→∀(j:Nat) (c:DV) (u:Value),r[j]?=some c→us'[i*sz+j]?=some u→X7 ok w c u:=by
 have hbig:off*sz+news.length≤us.toList.length:=by rw[hnl,←Sz,Sy];exact R8 (Sc _ hfit) hsz
 refine⟨?_,fun u hu=>?_,fun r hr'=>?_,da _ _ _ hfit,fun i r hi j c u hj hu=>?_⟩
 ·have:=da us.toList news (off*sz) hbig
  simpa using this
 ·simp only[Sp] at hu
  rcases hu with(hu|hu)|hu
  ·exact hone u (St hu)
  ·exact hn1 u hu
  ·exact hone u (SJ hu)
 ·simp only[Sp] at hr'
  rcases hr' with(hr'|hr')|hr'
  ·exact hrl r (St hr')
  ·exact hnr r hr'
  ·exact hrl r (SJ hr')
 ·rw [aX _ _ _ hfit] at hi
  have hu':(us.toList.take (off*sz)++news++us.toList.drop (off*sz+news.length))[i*sz+j]?=some u:=by simpa using hu
  rw[aX _ _ _ hbig] at hu'
  by_cases hin:off≤i∧i<off+nr.length
  ·rw[RJ hin] at hi
   have hjl:j<sz:=by rw[←hnr r (Sl hi)];exact(RM.1 hj).1
   have e1:i*sz=off*sz+(i-off)*sz:=by rw[←Sz];congr 1;omega
   have e2:(i-off+1)*sz≤nr.length*sz:=Sc _ (by omega);rw[Sz] at e2;rw[RJ (by omega)] at hu';have e3:i*sz+j-off*sz=(i-off)*sz+j:=by omega
   rw[e3] at hu';exact hn _ r hi j c u hj hu'
  ·rw[RI hin] at hi
   have hjl:j<sz:=by rw[←hrl r (Sl hi)];exact(RM.1 hj).1
   have:¬ (off*sz≤i*sz+j∧i*sz+j<off*sz+news.length):=by
    intro⟨h1,h2⟩;rw[hnl] at h2;rcases UM i off with h3|h3
    ·have:(i+1)*sz≤off*sz:=Sc _ h3
     rw[Sz] at this;omega
    ·have h4:off+nr.length≤i:=by omega
     have:(off+nr.length)*sz≤i*sz:=Sc _ h4;rw[Sz] at this;omega
   rw[RI this] at hu';exact hr i r hi j c u hj (by simpa using hu')
def Af(x:ABlk)(sz:Nat)(rs:List (List DV))(f:List (List DV)→ABlk):Prop:=(x=.rows sz rs∧f=.rows sz)∨(x=.full sz rs∧f=.full sz)
theorem Xq(h:X5 E ρ hp w){k sz off:Nat}{rs nr:List (List DV)}{x:ABlk}{f:List (List DV)→ABlk}{news:List Value}(hx:hp[k]?=some x)(hf:Af x sz rs f){b m:Nat}(hk:ρ[k]?=some (some (b,m)))
  (hnl:news.length=nr.length*sz) (hn1:∀ v,v∈news→v.oneCell'=true) (hnr:∀ r,r∈nr→r.length=sz)
  (hn:∀(i:Nat) (r:List DV),nr[i]?=some r→∀(j:Nat) (c:DV) (v:Value),r[j]?=some c→news[i*sz+j]?=some v→X7 (okB E ρ hp w) w c v) (hfit:off+nr.length≤rs.length) :
  ∃ us ty fz,w.heap[b]?=some (.cells us ty fz)∧us.size=m∧(wj us fz∧plain x us fz)∧off*sz+news.length≤us.size∧HStep E ρ hp w ρ (hp.set k (f (rs.take off++nr++rs.drop (off+nr.length)))) (setB w b (.cells (us.toList.take (off*sz)++news++us.toList.drop (off*sz+news.length)).toArray ty fz)):=by
 rcases hf with⟨rfl,rfl⟩|⟨rfl,rfl⟩
 ·obtain⟨q1,us,ty,fz,hw,hm,hfz,hone,hrl,hsz,hr⟩:=h.blk k _ b m hx hk (by simp)
  obtain⟨c1,c2,c3,c4,c5⟩:=sr hone hrl hsz hr hnl hn1 hnr hn hfit;refine⟨us,ty,fz,hw,hm,hfz,?_,HStep.set h hx (by simp) (by simp) hk hw c1 (fun l e=>by cases e) ⟨c2,c3,by rw[c4,c1];exact hsz,c5⟩⟩;rw[hnl,←Sz];exact R8 (Sc _ hfit) hsz
 ·obtain⟨q1,us,ty,fz,hw,hm,hfz,hone,hrl,hsz,hr⟩:=h.blk k _ b m hx hk (by simp)
  obtain⟨c1,c2,c3,c4,c5⟩:=sr hone hrl (Ux hsz) hr hnl hn1 hnr hn hfit;refine⟨us,ty,fz,hw,hm,hfz,?_,HStep.set h hx (by simp) (by simp) hk hw c1 (fun l e=>by cases e) ⟨c2,c3,by rw[c4,c1];exact hsz,c5⟩⟩;rw[hnl,←Sz,←hsz];exact Sc _ hfit
theorem Gu(sz L:Nat)(A:Option Addr)(n n' c:Nat):Builtin.firstCells sz L (.slice A n c)=Builtin.firstCells sz L (.slice A n' c):=by cases A<;>rfl
theorem oS(hB:qb ρ ok w hp){sz:Nat}(hpos:0<sz){y:AV}{A:Option Addr}{n n' c:Nat}{src:List (List DV)}(m:Nat)(hy:RepV ρ ok w y (.slice A n' c))(h:(srcRows hp sz y).1)(hs:(srcRows hp sz y).2=src.take m) :
  ∃ news:List Value,news.length=(src.take m).length*sz∧(∀ v,v∈news→v.oneCell'=true)∧(∀ r,r∈src.take m→r.length=sz)∧
    (∀(i:Nat) (r:List DV),(src.take m)[i]?=some r→∀(j:Nat) (c:DV) (v:Value),r[j]?=some c→news[i*sz+j]?=some v→X7 ok w c v)∧
    ∀ W:World,W.heap=w.heap→(Builtin.firstCells sz (src.take m).length (.slice A n c)).run P W=.ok news.toArray W:=by
 obtain⟨news,n1,n2,n3,n4,n5⟩:=rm (P:=P) hB hpos hy h;rw[hs] at n1 n3 n4 n5;exact⟨news,n1,n2,n3,n4,fun W hW=>by rw[Gu sz _ A n n' c];exact(n5 W hW).2⟩
theorem MW(hB:qb ρ ok w hp){sz:Nat}(hpos:0<sz){x:AV}{u:Value}(hx:RepV ρ ok w x u)(h:(srcRows hp sz x).1)(hns:∀ l,x≠.d (.str l))(m:Nat) :
  ∃ news:List Value,news.length=((srcRows hp sz x).2.take m).length*sz∧(∀ v,v∈news→v.oneCell'=true)∧(∀ r,r∈(srcRows hp sz x).2.take m→r.length=sz)∧
    (∀(i:Nat) (r:List DV),((srcRows hp sz x).2.take m)[i]?=some r→∀(j:Nat) (c:DV) (v:Value),r[j]?=some c→news[i*sz+j]?=some v→X7 ok w c v)∧
    ∀ W:World,W.heap=w.heap→(Builtin.firstCells sz ((srcRows hp sz x).2.take m).length u).run P W=.ok news.toArray W:=by
 have h0:=h;unfold srcRows at h;split at h
 ·rename_i sz' rows
  have h:=h;simp only at h;subst h;simp only[srcRows];cases hx with|d _ _ hx=>cases hx with|sl _ _ A cap u hcap hsz hc hr=>
  refine oS (n':=(rows.take m).length) hB hpos m (y:=.d (.sl sz' (rows.take m))) (.d _ _ (.sl sz' (rows.take m) A cap u (by simp;omega) (fun r hr'=>hsz r (St hr')) (fun hp=>?_) fun i r hi j c hj=>?_)) (by simp[srcRows]) (by simp[srcRows])
  ·obtain⟨b,o,hA,hb,hcell⟩:=hc (by simp at hp;omega)
   refine⟨b,o,hA,hb,fun i r hi j c hj=>hcell i r ?_ j c hj⟩;rw[Tc] at hi;split at hi
   ·exact hi
   ·cases hi
  ·refine hr i r ?_ j c hj
   rw[Tc] at hi;split at hi
   ·exact hi
   ·cases hi
 ·rename_i l;exact absurd rfl (hns l)
 ·cases hx with|d _ _ hx=>
  obtain⟨A,rfl⟩:=jd hx;simp only[srcRows];exact oS (n':=0) hB hpos m (y:=.d (.sc (.slice none 0 0))) (.d _ _ (.sc0 A)) (by simp[srcRows]) (by simp[srcRows])
 ·rename_i k sz' off n
  split at h
  ·rename_i sz'' rs hcs
   obtain⟨rfl,rfl,hfit⟩:=h;simp only[srcRows,hcs];cases hx with
   |oslnil _ _ A hkk=>exact oS (n':=0) hB hpos m (y:=.osl k sz'' 0 0) (.oslnil k sz'' A hkk) (by simp[srcRows,hcs]) (by simp[srcRows,hcs])
   | osl _ _ _ _ b mm cap hkk hm hn=>
     exact oS (n':=min m n) hB hpos m (y:=.osl k sz'' off (min m n)) (.osl k sz'' off _ b mm cap hkk hm (by omega)) (by simp only[srcRows,hcs];exact⟨Yj,Yj,by omega⟩) (by simp only[srcRows,hcs];rw[TU])
  ·rename_i sz'' rs hcs
   obtain⟨rfl,rfl,hfit⟩:=h;simp only[srcRows,hcs];cases hx with
   |oslnil _ _ A hkk=>exact absurd hkk (hB.2 k _ _ hcs)
   | osl _ _ _ _ b mm cap hkk hm hn=>
     exact oS (n':=min m n) hB hpos m (y:=.osl k sz'' off (min m n)) (.osl k sz'' off _ b mm cap hkk hm (by omega)) (by simp only[srcRows,hcs];exact⟨Yj,Yj,by omega⟩) (by simp only[srcRows,hcs];rw[TU])
  ·rename_i l hcs
   obtain⟨rfl,h1,hfit⟩:=h;simp only[srcRows,hcs];cases hx with
   |oslnil _ _ A hkk=>exact oS (n':=0) hB hpos m (y:=.osl k sz' 0 0) (.oslnil k sz' A hkk) (by simp[srcRows,hcs,h1]) (by simp[srcRows,hcs])
   | osl _ _ _ _ b mm cap hkk hm hn=>
     exact oS (n':=min m n) hB hpos m (y:=.osl k sz' off (min m n)) (.osl k sz' off _ b mm cap hkk hm (by omega)) (by simp only[srcRows,hcs];exact⟨Yj,h1,by omega⟩) (by simp only[srcRows,hcs];rw[TU])
  ·exact h.elim
 ·exact h.elim
theorem Fy{x0:AV}{u:Value}{sz:Nat}(hx:RepV ρ ok w x0 u)(h:(srcRows hp sz x0).1)(hns:∀ l,x0≠.d (.str l)):∃ A n c,u=.slice A n c∧n=(srcRows hp sz x0).2.length:=by
 unfold srcRows at h;split at h
 ·cases hx with|d _ _ hx=>cases hx with|sl _ _ A cap u hcap hsz hc hr=>exact⟨_,_,_,rfl,by simp[srcRows]⟩
 ·rename_i l;exact absurd rfl (hns l)
 ·cases hx with|d _ _ hx=>
  obtain⟨A,rfl⟩:=jd hx;exact⟨_,_,_,rfl,by simp[srcRows]⟩
 ·rename_i k sz' off n
  split at h
  ·rename_i sz'' rs hcs
   obtain⟨rfl,rfl,hfit⟩:=h;cases hx with
   |oslnil _ _ A hkk=>exact⟨_,_,_,rfl,by simp[srcRows,hcs]⟩
   |osl _ _ _ _ b mm cap hkk hm hn=>exact⟨_,_,_,rfl,by simp only[srcRows,hcs];rw[aJ _ _ _ hfit]⟩
  ·rename_i sz'' rs hcs
   obtain⟨rfl,rfl,hfit⟩:=h;cases hx with
   |oslnil _ _ A hkk=>exact⟨_,_,_,rfl,by simp[srcRows,hcs]⟩
   |osl _ _ _ _ b mm cap hkk hm hn=>exact⟨_,_,_,rfl,by simp only[srcRows,hcs];rw[aJ _ _ _ hfit]⟩
  ·rename_i l hcs
   obtain⟨rfl,h1,hfit⟩:=h;cases hx with
   |oslnil _ _ A hkk=>exact⟨_,_,_,rfl,by simp[srcRows,hcs]⟩
   |osl _ _ _ _ b mm cap hkk hm hn=>exact⟨_,_,_,rfl,by simp only[srcRows,hcs];rw[aJ _ _ _ hfit]⟩
  ·exact h.elim
 ·exact h.elim
theorem pW{α:Type}{l:List α}{k:Nat}{x:α}(h:l[k]?=some x):l.set k x=l:=by
 apply SR;intro j;rw[To];split
 ·rename_i e;subst e
  split
  ·exact h.symm
  ·rename_i h2;rw[R9 (by omega)] at h;cases h
 ·rfl
theorem jT(w w':World)(t xt ty e:TypeId)(i:TypeInfo)(ht:P.underlying t=some (.slice e))(hi:P.info? e=some i)(A B:Option Addr)(ln c dLen dCap L:Nat)(hL:Nat.min ln dLen=L)(news:List Value)
  (h5:(Builtin.firstCells i.size L (.slice A ln c)).run P w=.ok news.toArray w) (hst:∀ a,B=some a→(storeCells a news).run P w=.ok () w') (hn:B=none→w'=w) :
  (Builtin.copy_ #[t,xt] ty #[.slice B dLen dCap,.slice A ln c]).run P w=.ok (goInt L) w':=by
 subst hL;cases B with
 |none=>have:=hn rfl;subst this;simp[Builtin.copy_,R4 ht,Builtin.lenOf,sizeOf,typeInfo,hi,h5]
 |some a=>have:=hst a rfl;simp[Builtin.copy_,R4 ht,Builtin.lenOf,sizeOf,typeInfo,hi,h5,this]
theorem pO{T:TypeId→TI}(hT:ap P T)(h:X5 E ρ hp w)(t xt ty e:TypeId)(ht:P.underlying t=some (.slice e)){k sz sz' off n:Nat}{rs:List (List DV)}{x:ABlk}{f:List (List DV)→ABlk}(hx:hp[k]?=some x)(hf:Af x sz' rs f)
  (s:AV) (us ud:Value) (hs:RepV ρ (okB E ρ hp w) w s us) (hd:RepV ρ (okB E ρ hp w) w (.osl k sz off n) ud) (hns:∀ l,s≠.d (.str l))
  (hk:(oY (T e) (xZ (T xt).kind∧(srcRows hp (T e).size s).1,(srcRows hp (T e).size s).2) k sz sz' off n rs hp f).ok) :
  ∃ u w',mc E ρ hp w (.ok (.value u) w') (oY (T e) (xZ (T xt).kind∧(srcRows hp (T e).size s).1,(srcRows hp (T e).size s).2) k sz sz' off n rs hp f).v (oY (T e) (xZ (T xt).kind∧(srcRows hp (T e).size s).1,(srcRows hp (T e).size s).2) k sz sz' off n rs hp f).hp∧(Builtin.copy_ #[t,xt] ty #[ud,us]).run P w=.ok u w':=by
 obtain⟨k1,k2,hpos,hfit,⟨hsk,hsrc⟩,hko⟩:=hk;subst k1;subst k2;have hko:=an hko;obtain⟨i,z,hi1,hi2,hi3,hi4,hi5⟩:=(aP hT hko).info;obtain⟨A,ln,c,rfl,hln⟩:=Fy hs hsrc hns;simp only[oY];obtain⟨news,n1,n2,n3,n4,n5⟩:=MW (P:=P) h.blks hpos hs hsrc hns n;generalize hrows:(srcRows hp (T e).size s).2=src at *
 have hmin:Nat.min ln n=(src.take n).length:=by rw[RV,hln];exact Nat.min_comm _ _
 cases hd with
 | oslnil _ _ B hkk=>
   have e0:src.take 0=[]:=by simp
   rw[e0] at *
   have hnn:news=[]:=Sf (by simpa using n1);have hrs:hp.set k (f (rs.take 0++[]++rs.drop (0+([]:List (List DV)).length)))=hp:=by simp only[Tf,Sx,Sd,S8,Tw];rcases hf with⟨rfl,rfl⟩|⟨rfl,rfl⟩<;>exact pW hx
   rw[hrs];refine⟨goInt 0,w,⟨_,w,ρ,.inl rfl,HStep.below h ⟨rfl,rfl,rfl,RP _,fun _ _=>rfl⟩,.d _ _ (.int _ _)⟩,?_⟩;have h5:=n5 w rfl;subst hnn;exact jT w w t xt ty e i ht hi1 A B ln c 0 0 0 (Nat.min_zero _) [] (by rw[hi2];exact h5) (fun a _=>by simp[storeCells]) fun _=>rfl
 | osl _ _ _ _ b m cap hkk hm hn=>
   obtain⟨us,ty',fz,hw,hum,hfz,hbig,hst⟩:=Xq h hx hf hkk (off:=off) (nr:=src.take n) n1 n2 n3 n4 (by have:(src.take n).length≤n:=Tg _ _;omega);refine⟨goInt (src.take n).length,_,⟨_,_,ρ,.inl rfl,hst,.d _ _ (.int _ _)⟩,?_⟩;have hrun:=cS (P:=P) b (off*(T e).size) ty' fz news 0 us w hw (by simpa using hbig) hfz.1 n2;simp only[S8] at hrun;exact jT w _ t xt ty e i ht hi1 A _ ln c n cap _ hmin news (by rw[hi2];exact n5 w rfl) (fun a ha=>by injection ha with ha;subst ha;exact hrun) (fun h=>by cases h)
theorem sI {T:TypeId→TI} (hT:ap P T) (h:X5 E ρ hp w) (t xt ty e:TypeId) (ht:P.underlying t=some (.slice e)) {k sz off n:Nat} {cs:List AV} (hx:hp[k]?=some (.cells cs))
  (s:AV) (us ud:Value) (hs:RepV ρ (okB E ρ hp w) w s us) (hd:RepV ρ (okB E ρ hp w) w (.osl k sz off n) ud) (hk:(iO (T e) k sz off n cs s hp).ok) :
  ∃ u w',mc E ρ hp w (.ok (.value u) w') (iO (T e) k sz off n cs s hp).v (iO (T e) k sz off n cs s hp).hp∧(Builtin.copy_ #[t,xt] ty #[ud,us]).run P w=.ok u w':=by
 revert hk;unfold iO;split
 ·rename_i k' sz' off' n'
  split
  ·rename_i cs' hcs
   rintro⟨k1,rfl,rfl,hko,f1,f2⟩
   have hko:=an hko;obtain⟨i,z,hi1,hi2,hi3,hi4,hi5⟩:=(aP hT hko).info;rw[k1] at hi2
   -- what is read
   obtain⟨A,c,news,rfl,n1,n2,n3,n4⟩:∃(A:Option Addr) (c:Nat) (news:List Value),us=.slice A n' c∧news.length=min n n'∧(∀ v,v∈news→v.oneCell'=true)∧
     (∀(j:Nat) (x:AV) (v:Value),((cs'.drop off').take (min n n'))[j]?=some x→news[j]?=some v→RepV ρ (okB E ρ hp w) w x v)∧(Builtin.firstCells 1 (min n n') (.slice A n' c)).run P w=.ok news.toArray w:=by
    cases hs with
    |oslnil _ _ A hkk=>exact⟨A,0,[],rfl,by simp,by simp,by simp,by have:=eD (P:=P) 1 A w;simpa using this⟩
    | osl _ _ _ _ b m cap hkk hm hn=>
      obtain⟨us,ty,fz,hw,hum,hone,hsz,hr⟩:=h.blks.1 k' _ b m hcs hkk (by simp);have hbig:off'+min n n'≤us.toList.length:=by rw[Sy];omega
      have hnl:((us.toList.drop off').take (min n n')).length=min n n':=aJ _ _ _ hbig;refine⟨_,cap,(us.toList.drop off').take (min n n'),rfl,hnl,fun v hv=>hone v (fq hv),fun j x v hj hv=>?_,?_⟩
      ·have a1:=(ak _ _ _ _ _ hj).1
       have a2:=(ak _ _ _ _ _ hv).1;exact hr _ _ _ a1 (by simpa using a2)
      ·simp only[Builtin.firstCells,TP]
       have:=mZ (P:=P) w b off' ((us.toList.drop off').take (min n n')) fun j v hj=>by have:=(ak _ _ _ _ _ hj).1;rw[bc hw];simpa using this
       rwa[hnl] at this
   have hmin:Nat.min n' n=min n n':=Nat.min_comm _ _;cases hd with
   | oslnil _ _ B hkk=>
     have e0:min 0 n'=0:=by omega
     have hnn:news=[]:=Sf (by omega);subst hnn;simp only[e0,Tf,Sx,S8,Tw];rw[pW hx];refine⟨goInt 0,w,⟨_,w,ρ,.inl rfl,HStep.below h ⟨rfl,rfl,rfl,RP _,fun _ _=>rfl⟩,.d _ _ (.int _ _)⟩,?_⟩;rw[e0] at n4;exact jT w w t xt ty e i ht hi1 A B n' c 0 0 0 (Nat.min_zero _) [] (by rw[hi2];exact n4) (fun a _=>by simp[storeCells]) fun _=>rfl
   | osl _ _ _ _ b m cap hkk hm hn=>
     obtain⟨q1,us,ty',fz,hw,hum,hfz,hone,hsz,hr⟩:=h.blk k _ b m hx hkk (by simp);have hsz:us.size=cs.length:=hsz;have hbig:off+news.length≤us.toList.length:=by rw[show us.toList.length=us.size from Sy];omega
     have hlen:(cs.take off++(cs'.drop off').take (min n n')++cs.drop (off+min n n')).length=cs.length:=by
      have:((cs'.drop off').take (min n n')).length=min n n':=aJ _ _ _ f2
      have:=da cs ((cs'.drop off').take (min n n')) off (by omega);simp at this ⊢;omega
     have hst:HStep E ρ hp w ρ (hp.set k (.cells (cs.take off++(cs'.drop off').take (min n n')++cs.drop (off+min n n')))) (setB w b (.cells (us.toList.take off++news++us.toList.drop (off+news.length)).toArray ty' fz)):=by
      have hl:=da us.toList news off hbig;refine HStep.set h hx (by simp) (by simp) hkk hw (by simpa using hl) (fun l e=>by cases e) ⟨fun u hu=>?_,?_,fun j x u hj hu=>?_⟩
      ·simp only[Sp] at hu
       rcases hu with(hu|hu)|hu
       ·exact hone u (WF.1 (St hu) |> WF.2)
       ·exact n2 u hu
       ·exact hone u (SJ hu)
      ·rw[hlen,←hsz];simpa using hl
      ·have hn2:((cs'.drop off').take (min n n')).length=min n n':=aJ _ _ _ f2
       have hj2:(cs.take off++(cs'.drop off').take (min n n')++cs.drop (off+((cs'.drop off').take (min n n')).length))[j]?=some x:=by rw[hn2];exact hj
       rw[aX _ _ _ (by omega)] at hj2;have hu':(us.toList.take off++news++us.toList.drop (off+news.length))[j]?=some u:=by simpa using hu
       rw[aX _ _ _ hbig] at hu'
       by_cases hin:off≤j∧j<off+min n n'
       ·rw[RJ (by omega)] at hj2 hu'
        exact n3 _ _ _ hj2 hu'
       ·rw[RI (by omega)] at hj2 hu'
        exact hr _ _ _ hj2 (by simpa using hu')
     refine⟨goInt (min n n':Nat),_,⟨_,_,ρ,.inl rfl,hst,.d _ _ (.int _ _)⟩,?_⟩;have hrun:=cS (P:=P) b off ty' fz news 0 us w hw (by simpa using hbig) hfz.1 n2;simp only[S8] at hrun;rw[TP];exact jT w _ t xt ty e i ht hi1 A _ n' c n cap _ hmin news (by rw[hi2];exact n4) (fun a ha=>by injection ha with ha;subst ha;exact hrun) (fun h=>by cases h)
  ·intro h;exact h.elim
 ·intro h;exact h.elim
theorem BN{T:TypeId→TI}(hT:ap P T)(h:X5 E ρ hp w)(t xt ty:TypeId)(d s:AV)(ud us:Value)(hd:RepV ρ (okB E ρ hp w) w d ud)(hs:RepV ρ (okB E ρ hp w) w s us)(hns:∀ l,s≠.d (.str l))
  (hk:(rN T t xt d s hp).ok):∃ u w',mc E ρ hp w (.ok (.value u) w') (rN T t xt d s hp).v (rN T t xt d s hp).hp∧(Builtin.copy_ #[t,xt] ty #[ud,us]).run P w=.ok u w':=by
 revert hk;unfold rN;split
 ·rename_i e k sz off n hke
  split
  ·rename_i sz' rs hcs;intro hk;exact pO hT h t xt ty e (aC hT hke) hcs (.inl ⟨rfl,rfl⟩) s us ud hs hd hns hk
  ·rename_i sz' rs hcs;intro hk;exact pO hT h t xt ty e (aC hT hke) hcs (.inr ⟨rfl,rfl⟩) s us ud hs hd hns hk
  ·rename_i cs hcs;intro hk;exact sI hT h t xt ty e (aC hT hke) hcs s us ud hs hd hk
  ·intro h;exact h.elim
 ·intro h;exact h.elim
theorem vT(z:Array Value)(n i j:Nat)(hi:i<n)(hj:j<z.size):(Builtin.zeroCells z n)[i*z.size+j]?=some z[j]:=by
 have h1:i*z.size+j<n*z.size:=by have:(i+1)*z.size≤n*z.size:=Sc _ hi;rw[Sz] at this;omega
 have h2:(i*z.size+j)%z.size=j:=by rw[TS,Ul,Ts hj]
 simp only[Builtin.zeroCells,Array.getElem?_map];rw[Tn (by simpa using h1)];simp[h2,hj]
theorem xv{T:TypeId→TI}(hT:ap P T){e:TypeId}(hko:(T e).kind≠.other){z:Value}(hz:z.cells.toList=(T e).zero.map DV.val)(n:Nat) :
  (Builtin.zeroCells z.cells n).toList.length=(List.replicate n (T e).zero).length*(T e).size∧(∀ v,v∈(Builtin.zeroCells z.cells n).toList→v.oneCell'=true)∧(∀ r,r∈List.replicate n (T e).zero→r.length=(T e).size)∧
   (∀(i:Nat) (r:List DV),(List.replicate n (T e).zero)[i]?=some r→∀(j:Nat) (c:DV) (v:Value),r[j]?=some c→(Builtin.zeroCells z.cells n).toList[i*(T e).size+j]?=some v→X7 ok w c v):=by
 have hzs:z.cells.size=(T e).size:=by rw[←Sy,hz,RO,(aP hT hko).zl]
 refine⟨by rw[Sy,VS,hzs,TJ],fun v hv=>gY hT hko hz n v hv,fun r hr=>by rw[V6 hr];exact(aP hT hko).zl,fun i r hi j c v hj hv=>?_⟩;have hil:i<n:=by have:=(RM.1 hi).1;simpa using this
 have hr:r=(T e).zero:=V6 (Sl hi);subst hr;have hjl:j<z.cells.size:=by rw[hzs,←(aP hT hko).zl];exact(RM.1 hj).1
 have h1:=vT z.cells n i j hil hjl;rw[hzs,←Ur,hv] at h1;injection h1 with h1;have h2:z.cells.toList[j]?=some (c.val):=by rw[hz,RS,hj];rfl
 rw[Ur,Tn hjl] at h2;injection h2 with h2;rw[h1,h2]
 have:=(aP hT hko).one c (Sl hj);exact sZ this.1 this.2
theorem n7{T:TypeId→TI}(hT:ap P T)(h:X5 E ρ hp w)(t ty e:TypeId)(ht:P.underlying t=some (.slice e)){k sz sz' off n:Nat}{rs:List (List DV)}{x:ABlk}{f:List (List DV)→ABlk}(hx:hp[k]?=some x)(hf:Af x sz' rs f)
  (ud:Value) (hd:RepV ρ (okB E ρ hp w) w (.osl k sz off n) ud) (hk:(lC (T e) k sz sz' off n rs hp f).ok) :
  ∃ u w',mc E ρ hp w (.ok (.value u) w') (lC (T e) k sz sz' off n rs hp f).v (lC (T e) k sz sz' off n rs hp f).hp∧(Builtin.clear_ #[t] ty #[ud]).run P w=.ok u w':=by
 obtain⟨k1,k2,hpos,hfit,hko⟩:=hk;subst k1;subst k2;have hko:=an hko;obtain⟨z',hz1,hz2,_⟩:=eZ (P:=P) hT hko;simp only[lC];obtain⟨n1,n2,n3,n4⟩:=xv (P:=P) (w:=w) (ok:=okB E ρ hp w) hT hko hz2 n;have hlen:(List.replicate n (T e).zero).length=n:=TJ;cases hd with
 | oslnil _ _ B hkk=>
   have hrs:hp.set k (f (rs.take 0++List.replicate 0 (T e).zero++rs.drop (0+0)))=hp:=by simp only[Tf,WO,Sx,S8,Tw];rcases hf with⟨rfl,rfl⟩|⟨rfl,rfl⟩<;>exact pW hx
   rw[hrs];exact⟨.tuple #[],w,⟨_,w,ρ,.inl rfl,HStep.below h ⟨rfl,rfl,rfl,RP _,fun _ _=>rfl⟩,.any _⟩,by cases B<;>simp[Builtin.clear_,R4 ht]⟩
 | osl _ _ _ _ b m cap hkk hm hn=>
   obtain⟨us,ty',fz,hw,hum,hfz,hbig,hst⟩:=Xq h hx hf hkk (off:=off) (nr:=List.replicate n (T e).zero) n1 n2 n3 n4 (by rw[hlen];exact hfit);rw[hlen] at hst
   by_cases hn0:n=0
   ·subst hn0
    have hrs:hp.set k (f (rs.take off++List.replicate 0 (T e).zero++rs.drop (off+0)))=hp:=by simp only[WO,Se,S8,SN];rcases hf with⟨rfl,rfl⟩|⟨rfl,rfl⟩<;>exact pW hx
    rw[hrs];exact⟨.tuple #[],w,⟨_,w,ρ,.inl rfl,HStep.below h ⟨rfl,rfl,rfl,RP _,fun _ _=>rfl⟩,.any _⟩,by simp[Builtin.clear_,R4 ht]⟩
   ·refine⟨.tuple #[],_,⟨_,_,ρ,.inl rfl,hst,.any _⟩,?_⟩
    have hrun:=cS (P:=P) b (off*(T e).size) ty' fz (Builtin.zeroCells z'.cells n).toList 0 us w hw (by simpa using hbig) hfz.1 n2;simp only[S8] at hrun;obtain⟨n',rfl⟩:∃ n',n=n'+1:=⟨n-1,by omega⟩;simp[Builtin.clear_,R4 ht,hz1,hrun]
theorem zZ{T:TypeId→TI}(hT:ap P T)(h:X5 E ρ hp w)(t ty:TypeId)(s:AV)(us:Value)(hs:RepV ρ (okB E ρ hp w) w s us)(hk:(mH T t s hp).ok) :
  ∃ u w',mc E ρ hp w (.ok (.value u) w') (mH T t s hp).v (mH T t s hp).hp∧(Builtin.clear_ #[t] ty #[us]).run P w=.ok u w':=by
 revert hk;unfold mH;split
 ·rename_i e k sz off n hke
  split
  ·rename_i sz' rs hcs;intro hk;exact n7 hT h t ty e (aC hT hke) hcs (.inl ⟨rfl,rfl⟩) us hs hk
  ·rename_i sz' rs hcs;intro hk;exact n7 hT h t ty e (aC hT hke) hcs (.inr ⟨rfl,rfl⟩) us hs hk
  ·intro h;exact h.elim
 ·rename_i e sz hke
  intro _;cases hs with|d _ _ hx=>cases hx with|sl _ _ A cap u hcap hsz hc hr=>
  exact⟨.tuple #[],w,⟨_,w,ρ,.inl rfl,HStep.below h ⟨rfl,rfl,rfl,RP _,fun _ _=>rfl⟩,.any _⟩,by cases A<;>simp[Builtin.clear_,R4 (aC hT hke)]⟩
 ·rename_i e hke
  intro _;cases hs with|d _ _ hx=>
  obtain⟨A,rfl⟩:=jd hx;exact⟨.tuple #[],w,⟨_,w,ρ,.inl rfl,HStep.below h ⟨rfl,rfl,rfl,RP _,fun _ _=>rfl⟩,.any _⟩,by cases A<;>simp[Builtin.clear_,R4 (aC hT hke)]⟩
 ·intro h;exact h.elim
theorem vV{T:TypeId→TI}(hT:ap P T)(h:X5 E ρ hp w)(t xt ty e:TypeId)(ht:P.underlying t=some (.slice e)){k sz sz' off n:Nat}{rs:List (List DV)}(hcs:hp[k]?=some (.full sz' rs))(x:AV)(us ux:Value)
  (hs:RepV ρ (okB E ρ hp w) w (.osl k sz off n) us) (hx:RepV ρ (okB E ρ hp w) w x ux) (hk:(nO (T e) (T xt).kind hp x k sz sz' off n rs).ok) :
  ∃ u w',mc E ρ hp w (.ok (.value u) w') (nO (T e) (T xt).kind hp x k sz sz' off n rs).v (nO (T e) (T xt).kind hp x k sz sz' off n rs).hp∧(Builtin.append_ #[t,xt] ty #[us,ux]).run P w=.ok u w':=by
 obtain⟨k1,k2,k3,hnr,hsrc,hint,hpos,hby,hko,hbig⟩:=hk;subst k1;subst k2;subst k3;have hko:=an hko;obtain⟨i,z,hi1,hi2,hi3,hi4,hi5⟩:=(aP hT hko).info;obtain⟨z',hz1,hz2,_⟩:=eZ (P:=P) hT hko;have hzz:z'=z:=by have:=hz1 w;simp[zeroValue,typeInfo,hi1,hi4] at this;exact this.symm
 subst hzz;have hzs:z'.cells.size=(T e).size:=by rw[←Sy,hz2,RO,(aP hT hko).zl]
 simp only[nO];have hd0:Below w.heap.size w w.drew:=⟨rfl,rfl,rfl,RP _,fun _ _=>rfl⟩;have hst0:=HStep.below h hd0;cases hs with
 |oslnil _ _ A hkk=>exact absurd hkk (h.blks.2 k _ _ hcs)
 |osl _ _ _ _ b m cap hkk hm hn=>
 obtain⟨q1,cur,tt,fz,hw,hcm,hfz,hone,hrl,hsz,hr⟩:=h.blk k _ b m hcs hkk (by simp)
 have hcap:cap=rs.length:=by
  rw[←hm] at hcm;rw[hcm] at hsz
  have:=UZ hpos hsz;omega
 -- what the row holds till now
 have hs':RepV ρ (okB E ρ hp w) w (.osl k (T e).size 0 n) (.slice (some ⟨b,0*(T e).size,none⟩) n cap):=.osl k (T e).size 0 n b m cap hkk hm hn;obtain⟨olds,o1,o2,o3,o4,o5⟩:=rm (P:=P) h.blks hpos hs' (by simp only[srcRows,hcs];exact⟨Yj,Yj,by omega⟩);simp only[srcRows,hcs,Tw] at o1 o2 o3 o4 o5;have hon:(rs.take n).length=n:=by simp;omega
 rw[hon] at o1 o5
 -- what is appended
 have happ:∃ news:List Value,news.length=(srcApp (T e) (T xt).kind hp x).2.length*(T e).size∧(∀ v,v∈news→v.oneCell'=true)∧(∀ r,r∈(srcApp (T e) (T xt).kind hp x).2→r.length=(T e).size)∧
   (∀(i:Nat) (r:List DV),(srcApp (T e) (T xt).kind hp x).2[i]?=some r→∀(j:Nat) (c:DV) (v:Value),r[j]?=some c→news[i*(T e).size+j]?=some v→X7 (okB E ρ hp w) w c v)∧
   ((n+(srcApp (T e) (T xt).kind hp x).2.length≤rs.length→∃ wz,(Builtin.append_ #[t,xt] ty #[.slice (some ⟨b,0*(T e).size,none⟩) n cap,ux]).run P w=.ok (.slice (some ⟨b,0,none⟩) (n+(srcApp (T e) (T xt).kind hp x).2.length) cap) wz∧wz=setB w b (.cells (cur.toList.take (n*(T e).size)++news++cur.toList.drop (n*(T e).size+news.length)).toArray tt fz))∧
   (rs.length<n+(srcApp (T e) (T xt).kind hp x).2.length→(Builtin.append_ #[t,xt] ty #[.slice (some ⟨b,0*(T e).size,none⟩) n cap,ux]).run P w=.ok (.slice (some ⟨w.heap.size,0,none⟩) (n+(srcApp (T e) (T xt).kind hp x).2.length) (grownCap w (n+(srcApp (T e) (T xt).kind hp x).2.length) cap e))
    (w.drew.alloc (.cells (olds.toArray++news.toArray++Builtin.zeroCells z'.cells (grownCap w (n+(srcApp (T e) (T xt).kind hp x).2.length) cap e-(n+(srcApp (T e) (T xt).kind hp x).2.length))) e)))):=by
  revert hsrc hint hbig;unfold srcApp;split
  ·rename_i kn kq mm hkx
   intro hsrc hint hbig;simp only at hsrc hbig hint ⊢;cases hx with|d _ _ hx=>cases hx with|int _ _=>
   obtain⟨a1,a2,a3,a4⟩:=xv (P:=P) (w:=w) (ok:=okB E ρ hp w) hT hko hz2 mm.toNat;have hgr:=hint (by simp[hkx,DH]);simp only[TJ] at hbig hgr ⊢;refine⟨(Builtin.zeroCells z'.cells mm.toNat).toList,by simpa using a1,a2,a3,a4,fun h=>by omega,fun _=>?_⟩;have hmm:((mm.toNat:Nat):Int)=mm:=by omega
   have h63:n+mm.toNat≤140737488355328:=R8 (Nat.le_mul_of_pos_right _ hby) hbig;have hmb:mm.toNat*(T e).bytes≤140737488355328:=R8 (Sc _ (by omega)) hbig
   have:=Lib.run_append_grow_zeros (P:=P) w t xt ty e i z' kq kn ht (nl hT hkx) hi1 hi4 (some ⟨b,0*(T e).size,none⟩) n cap olds (by rw[hi2];exact(o5 w.drew rfl).2) mm.toNat (by omega) (by rw[hi2];exact hpos) (by omega) (by omega) (by rw[hi3];omega) (by rw[hi3];exact growslice_fits (by omega) hbig);rw[hmm] at this;simpa using this
  ·rename_i hno
   intro hsrc hint hbig;obtain⟨hty,hsrc⟩:=hsrc;obtain⟨news,n1,n2,n3,n4,n5⟩:=rm (P:=P) h.blks hpos hx hsrc;simp only at hbig ⊢;generalize hrows:(srcRows hp (T e).size _).2=src at *
   refine⟨news,n1,n2,n3,n4,fun hroom=>?_,fun hgr=>?_⟩
   ·have e0:=n5 w rfl
    have hfit:n*(T e).size+news.length≤cur.size:=by rw[n1,←Sz,←hsz];exact Sc _ hroom
    have hrun:=kI (P:=P) w t xt ty e i ht hi1 (fS hT hty) b 0 n cap cur tt fz hw hfz.1 ux src.length news e0.1 (by rw[hi2];exact e0.2) n2 (by omega) (by rw[hi2,SO];exact hfit);rw[hi2,SO] at hrun;exact⟨_,by simpa using hrun,rfl⟩
   ·exact gK (P:=P) w t xt ty e i z' ht hi1 hi4 (fS hT hty) (by rw[hi3];exact hby) _ n cap olds (fun W hW=>by rw[hi2];exact(o5 W hW).2) ux src.length news
     (fun W hW=>by rw[hi2];exact n5 W hW) (by omega) (by rw[hi3];exact hbig)
 obtain⟨news,n1,n2,n3,n4,hroom,hgrow⟩:=happ;generalize hrows:(srcApp (T e) (T xt).kind hp x).2=src at *
 by_cases hc:n+src.length≤rs.length
 ·rw[RJ hc,RJ hc]
  obtain⟨wz,hrun,hwz⟩:=hroom hc;obtain⟨us,ty',fz',hw',hum,hfz',hbig',hst⟩:=Xq h hcs (.inr ⟨rfl,rfl⟩) hkk (off:=n) (nr:=src) n1 n2 n3 n4 hc;rw[hw] at hw';injection hw' with hw';injection hw' with e1 e2 e3;subst e1;subst e2;subst e3;subst hwz;refine⟨_,_,⟨_,_,ρ,.inl rfl,hst,?_⟩,hrun⟩
  have:=RepV.osl (ρ:=ρ) (ok:=okB E ρ (hp.set k (.full (T e).size (rs.take n++src++rs.drop (n+src.length)))) (setB w b (.cells (cur.toList.take (n*(T e).size)++news++cur.toList.drop (n*(T e).size+news.length)).toArray tt fz)))
   (w:=setB w b (.cells (cur.toList.take (n*(T e).size)++news++cur.toList.drop (n*(T e).size+news.length)).toArray tt fz)) k (T e).size 0 (n+src.length) b m cap hkk hm (by omega)
  simpa using this
 ·rw[RI hc,RI hc]
  have hrun:=hgrow (by omega);have hge:=WE w (n+src.length) cap e
  have hst1:=HStep.push hst0.heap (olds.toArray++news.toArray++Builtin.zeroCells z'.cells (grownCap w (n+src.length) cap e-(n+src.length))) e (0,0) (.rows (T e).size (rs.take n++src)) (ue _) (oA _ _)
   (nL (ρ:=ρ) (w:=w.drew) (ok:=okB E ρ hp w.drew) (spare:=Builtin.zeroCells z'.cells (grownCap w (n+src.length) cap e-(n+src.length))) (olds:=olds) (news:=news)
    (by rw[hon];exact o1) o3 o2 (fun i r hi j c v hj hv=>(o4 i r hi j c v hj hv).mono (gj hd0)) n1 n3 n2 (fun i r hi j c v hj hv=>(n4 i r hi j c v hj hv).mono (gj hd0)) (fun v hv=>gY hT hko hz2 _ v hv) (by simp))
  refine⟨_,_,⟨_,_,_,.inl rfl,hst0.trans hst1,?_⟩,hrun⟩;have hsz2:(olds.toArray++news.toArray++Builtin.zeroCells z'.cells (grownCap w (n+src.length) cap e-(n+src.length))).size=(0+grownCap w (n+src.length) cap e)*(T e).size:=by simp only[V4,T7,VS,hzs,n1,o1];rw[SO,←Sz,←Sz];congr 1;omega
  have:=RepV.osl (ρ:=ρ++[some (w.drew.heap.size,(olds.toArray++news.toArray++Builtin.zeroCells z'.cells (grownCap w (n+src.length) cap e-(n+src.length))).size)])
   (ok:=okB E (ρ++[some (w.drew.heap.size,(olds.toArray++news.toArray++Builtin.zeroCells z'.cells (grownCap w (n+src.length) cap e-(n+src.length))).size)]) (hp++[.rows (T e).size (rs.take n++src)]) (pushB w.drew (.cells (olds.toArray++news.toArray++Builtin.zeroCells z'.cells (grownCap w (n+src.length) cap e-(n+src.length))) e)))
   (w:=pushB w.drew (.cells (olds.toArray++news.toArray++Builtin.zeroCells z'.cells (grownCap w (n+src.length) cap e-(n+src.length))) e))
   hp.length (T e).size 0 (n+src.length) w.drew.heap.size _ (grownCap w (n+src.length) cap e) (by rw[←h.len];simp) hsz2.symm hge
  simpa using this
theorem tE{T:TypeId→TI}(hT:ap P T)(h:X5 E ρ hp w)(t xt ty:TypeId)(s x:AV)(us ux:Value)
  (hs:RepV ρ (okB E ρ hp w) w s us) (hx:RepV ρ (okB E ρ hp w) w x ux) (hk:(io T t xt s x hp).ok) :
  ∃ u w',mc E ρ hp w (.ok (.value u) w') (io T t xt s x hp).v (io T t xt s x hp).hp∧(Builtin.append_ #[t,xt] ty #[us,ux]).run P w=.ok u w':=by
 revert hk;unfold io;split
 ·rename_i e k sz off n hke
  split
  ·rename_i sz' rs hcs;intro hk;exact vV hT h t xt ty e (aC hT hke) hcs x us ux hs hx hk
  ·intro hk;exact oa hT h t xt ty _ x us ux hs hx hk
 ·intro hk;exact oa hT h t xt ty _ x us ux hs hx hk
end
def cN(s:List UInt8):List (List UInt8×Int)→Option Nat
 |[]=>none
 |(k,_)::r=>if s=k then some 0 else(cN s r).map (·+1)
def lL(l:List (List UInt8×Int))(s:List UInt8):Int:=
 match cN s l with
 |some i=>(l.getD i ([],0)).2
 |none=>0
def k6(l:List (List UInt8×Int))(s:List UInt8):Nat:=(cN s l).getD l.length
def jz(l:List (List UInt8×Int))(s:List UInt8):List (List UInt8×Int):=if(cN s l).isSome then l else l++[(s,0)]
def ml(l:List (List UInt8×Int))(i:Nat)(v:Int):List (List UInt8×Int):=l.modify i fun e=>(e.1,v)
def mset(l:List (List UInt8×Int))(s:List UInt8)(v:Int):List (List UInt8×Int):=
 match cN s l with
 |some i=>ml l i v
 |none=>l++[(s,v)]
def ip(T:TypeId→TI)(t:TypeId):Prop:=
 match (T t).kind with
 |.map k e=>(T k).kind=.str∧(T e).kind=.int .i64∧(T e).zero=[.int .i64 0]
 |_=>False
def ka(hp:List ABlk):MR:=⟨True,.mp hp.length,hp++[.map []]⟩
def kQ(T:TypeId→TI)(t:TypeId)(x k v:AV)(hp:List ABlk):MR:=
 match x,k,v with
 | .mp j,.d (.str s),.d (.int .i64 n)=>
   (match hp[j]? with
   |some (.map l)=>⟨ip T t,.any,hp.set j (.map (mset l s n))⟩
   |_=>⟨False,.any,hp⟩)
 |_,_,_=>⟨False,.any,hp⟩
def ky(T:TypeId→TI)(t:TypeId)(x k:AV)(hp:List ABlk):PR:=
 match x,k with
 | .mp j,.d (.str s)=>
   (match hp[j]? with
   |some (.map l)=>⟨ip T t,I (lL l s)⟩
   |_=>⟨False,.any⟩)
 |_,_=>⟨False,.any⟩
theorem gb:∀(i:Nat) (l:List (List UInt8×Int)),(g0 i l).length=l.length
 |_,[]=>rfl
 |i,(k,v)::r=>by simp[g0,gb (i+1) r]
theorem ik:∀(i j:Nat) (l:List (List UInt8×Int)),(g0 i l)[j]?=(l[j]?).map fun e=>⟨aW e.1,.int .i64 e.2,i+j⟩
 |_,_,[]=>by simp[g0]
 |i,0,(k,v)::r=>by simp[g0]
 | i,j+1,(k,v)::r=>by
   rw[g0,Tt,Tt,ik (i+1) j r];congr 1;funext e;congr 1;omega
theorem x8(s:List UInt8):∀(l:List (List UInt8×Int)) (i j:Nat),Instr.findNow .string (aW s) (g0 i l) j=some ((cN s l).map fun p=>(p+j,.int .i64 (l.getD p ([],0)).2))
 |[],_,_=>rfl
 | (k,v)::r,i,j=>by
   rw[g0,Instr.findNow]
   have:Instr.sameNow .string (aW s) (aW k)=some (decide (s=k)):=by simp only[Instr.sameNow,aW,qv]
   rw[this]
   by_cases e:s=k
   ·subst e;simp[cN]
   ·rw[R0 e]
    simp only[x8 s r (i+1) (j+1),cN,RI e,Option.map_map];congr 1;cases cN s r with
    |none=>rfl
    |some p=>simp;omega
theorem mM{s:List UInt8}:∀{l:List (List UInt8×Int)} {p:Nat},cN s l=some p→p<l.length∧(l.getD p ([],0)).1=s
 |[],p,h=>by cases h
 | (k,v)::r,p,h=>by
   unfold cN at h
   by_cases e:s=k
   ·rw[RJ e] at h;cases h;exact⟨by simp,e.symm⟩
   ·rw[RI e] at h
    obtain⟨q,hq,rfl⟩:=RY.1 h
    have:=mM hq;exact⟨by simp;omega,by simpa using this.2⟩
theorem qu{s:List UInt8}{t:List UInt8}{v:Int}:∀{l:List (List UInt8×Int)},cN s (l++[(t,v)])=match cN s l with|some p=>some p|none=>if s=t then some l.length else none
 |[]=>by simp[cN]
 | (k,u)::r=>by
   simp only[SB,cN,qu (l:=r)]
   by_cases e:s=k
   ·simp[e]
   ·rw[RI e,RI e]
    cases cN s r with
    |some p=>rfl
    |none=>by_cases e2:s=t<;>simp[e2]
theorem xR{s:List UInt8}:∀{l:List (List UInt8×Int)} {i:Nat} {v:Int},cN s (ml l i v)=cN s l
 |[],i,v=>by simp[ml,cN]
 |(k,u)::r,0,v=>by simp[ml,cN]
 | (k,u)::r,i+1,v=>by
   have:=xR (s:=s) (l:=r) (i:=i) (v:=v);simp only[ml] at this;simp[ml,cN,this]
theorem Gl(l:List (List UInt8×Int))(s:List UInt8):k6 l s<(jz l s).length:=by
 unfold k6 jz;cases h:cN s l with
 |some p=>simpa using(mM h).1
 |none=>simp
theorem NN(l:List (List UInt8×Int))(s:List UInt8)(v:Int):mset l s v=ml (jz l s) (k6 l s) v:=by
 unfold mset jz k6;cases h:cN s l with
 |some p=>simp
 | none=>
   simp only[Option.isSome_none,Tb,Tj,Option.getD_none,ml];apply SR;intro j;rw[T5];rcases TR j l.length with h|h|h
   ·rw[R2 h,R2 h];cases l[j]?<;>simp[show ¬ l.length=j from by omega]
   ·subst h;simp
   ·rw[R9 (by simp;omega),R9 (by simp;omega)];rfl
theorem H5(l:List (List UInt8×Int))(s t:List UInt8)(v:Int):lL (mset l s v) t=if t=s then v else lL l t:=by
 rw[NN]
 have gp (m:List (List UInt8×Int)) (i j:Nat) (v:Int) (h:i<m.length):((ml m i v).getD j ([],0)).2=if i=j then v else(m.getD j ([],0)).2:=by
  simp only[ml,RG,T5]
  by_cases e:i=j
  ·subst e;simp[RH h]
  ·simp only[e,Tj];cases m[j]?<;>rfl
 have hp:=Gl l s;unfold lL;rw[xR]
 by_cases e:t=s
 ·subst e
  rw[RJ rfl];cases h:cN t l with
  | some p=>
    have h2:cN t (jz l t)=some p:=by unfold jz;simp[h]
    have h3:k6 l t=p:=by unfold k6;simp[h]
    rw[h2];simp only;rw[gp _ _ _ _ hp,RJ h3]
  | none=>
    have h2:cN t (jz l t)=some l.length:=by unfold jz;simp[h,qu]
    have h3:k6 l t=l.length:=by unfold k6;simp[h]
    rw[h2];simp only;rw[gp _ _ _ _ hp,RJ h3]
 ·rw [RI e]
  have h2:cN t (jz l s)=cN t l:=by
   unfold jz;split
   ·rfl
   ·rw[qu];cases cN t l<;>simp[e]
  rw[h2];cases h:cN t l with
  |none=>rfl
  | some p=>
    simp only;obtain⟨a,b⟩:=mM h;rw[gp _ _ _ _ hp,RI]
    ·unfold jz;split
     ·rfl
     ·rw[RG,R2 a,RG]
    ·intro e2
     unfold k6 at e2;cases h3:cN s l with
     |some q=>rw[h3] at e2;simp at e2;subst e2;exact e (b.symm.trans (mM h3).2)
     |none=>rw[h3] at e2;simp at e2;omega
def JT(l:List (List UInt8×Int))(s:List UInt8):List (List UInt8×Int):=mset l s (lL l s+1)
theorem GX(l:List (List UInt8×Int))(s t:List UInt8):lL (JT l s) t=lL l t+if t=s then 1 else 0:=by
 unfold JT;rw[H5]
 by_cases e:t=s
 ·subst e;simp
 ·simp[e]
section
variable {P:Program} {E:Ent} {ρ:List (Option (Nat×Nat))} {hp:List ABlk} {w:World} {T:TypeId→TI}
theorem Ex(hT:ap P T){t k e:TypeId}(hk:(T t).kind=.map k e):P.underlying t=some (.map k e):=by obtain⟨d,hd,h⟩:=(aP hT (t:=t) (by rw[hk];simp)).und;rw[hk] at h;rw[hd,h]
theorem Cb{b:Nat}{es:Array MapEntry}{clk:Nat}(hb:w.heap[b]?=some (.map es clk)):(getObj b).run P w=.ok (.map es clk) w:=by simp[getObj,Sem.run,hb]
theorem Ar{b:Nat}{es:Array MapEntry}{clk:Nat}(o:Obj)(hb:w.heap[b]?=some (.map es clk)):(setObj b o).run P w=.ok () (setB w b o):=by simp[setObj,Sem.run,hb,setB]
theorem tX(h:X5 E ρ hp w)(t:TypeId) :
  ∃ u w',mc E ρ hp w (.ok (.value u) w') (ka hp).v (ka hp).hp∧(Instr.makeMap t none).run P w=.ok u w':=by
 refine⟨.map (some w.heap.size),pushB w (.map #[] 0),⟨_,_,_,.inl rfl,Xx h _ 0 (.map []) rfl,?_⟩,?_⟩
 ·refine .mp _ _ 0 ?_
  rw[←h.len];simp
 ·simp[Instr.makeMap,pushB]
theorem fh{k:TypeId}(hk:P.underlying k=some .string)(b:Bool)(s:List UInt8):(Instr.checkKey b 10000 k (aW s)).run P w=.ok () w:=by unfold Instr.checkKey;simp[R4 hk,aW]
theorem lV{k:TypeId}(hk:P.underlying k=some .string)(s:List UInt8)(l:List (List UInt8×Int)) :
  (Instr.findKey k (aW s) (fc l)).run P w=.ok ((cN s l).map fun p=>(p,.int .i64 (l.getD p ([],0)).2)) w:=by
 have:=x8 s l 0 0;simp only[S8] at this;simp[Instr.findKey,R4 hk,fc,this]
theorem Ou{j:Nat}{u:Value}(h:RepV ρ (okB E ρ hp w) w (.mp j) u):∃ b m,u=.map (some b)∧ρ[j]?=some (some (b,m)):=by cases h with|mp _ b m h=>exact⟨b,m,rfl,h⟩
theorem IK(h:X5 E ρ hp w){j b m:Nat}{l:List (List UInt8×Int)}(hj:hp[j]?=some (.map l))(hk:ρ[j]?=some (some (b,m))):w.heap[b]?=some (.map (fc l).toArray l.length):=by obtain⟨_,o,h1,h2⟩:=h.obj j _ b m hj hk (by simp);rw[h1];exact congrArg some h2
theorem LY{s:List UInt8}{u:Value}(h:RepV ρ (okB E ρ hp w) w (.d (.str s)) u):u=aW s:=by cases h with|d _ _ h=>cases h with|str _=>rfl
theorem PD{k:IntKind}{n:Int}{u:Value}(h:RepV ρ (okB E ρ hp w) w (.d (.int k n)) u):u=.int k n:=by cases h with|d _ _ h=>cases h with|int _ _=>rfl
theorem CR(l:List (List UInt8×Int))(i:Nat)(n:Int):(fc (ml l i n)).toArray=(fc l).toArray.modify i fun e=>{ e with val:=.int .i64 n }:=by
 apply TN;rw[WP];apply SR;intro j;rw[T5];simp only[fc,ik,ml,T5]
 by_cases e:i=j
 ·subst e;cases l[i]?<;>simp
 ·cases l[j]?<;>simp[e]
theorem CN(l:List (List UInt8×Int))(s:List UInt8)(v:Int):(fc (l++[(s,v)])).toArray=(fc l).toArray.push ⟨aW s,.int .i64 v,l.length⟩:=by
 apply TN;rw[Array.toList_push];apply SR;intro j;simp only[fc,ik];rcases TR j l.length with h|h|h
 ·rw[R2 h,R2 (by rw[gb];exact h),ik]
 ·subst h
  rw[RT (RP _),RT (by rw[gb];exact RP _),gb];simp
 ·rw[RT (by omega),RT (by rw[gb];omega),gb]
  rw[R9 (by simp;omega),R9 (by simp;omega)];rfl
theorem wk(hT:ap P T)(h:X5 E ρ hp w)(t:TypeId)(x k v:AV)(ux uk uv:Value)(hx:RepV ρ (okB E ρ hp w) w x ux)(hk:RepV ρ (okB E ρ hp w) w k uk)(hv:RepV ρ (okB E ρ hp w) w v uv)(ho:(kQ T t x k v hp).ok) :
  ∃ w',mc E ρ hp w (.ok .skip w') (kQ T t x k v hp).v (kQ T t x k v hp).hp∧(Instr.mapUpdate t ux uk uv).run P w=.ok () w':=by
 revert ho;unfold kQ;split
 case h_2=>exact fun h=>h.elim
 rename_i j s n;split
 case h_2=>exact fun h=>h.elim
 rename_i l hj;intro ho;simp only at ho ⊢;obtain⟨b,m,rfl,hb⟩:=Ou hx
 have:=LY hk;subst this
 have:=PD hv;subst this;unfold ip at ho;split at ho
 case h_2=>exact ho.elim
 rename_i kt et hkt;obtain⟨hs,hi,hz⟩:=ho;have hm:=IK h hj hb;have hgo:=Cb (P:=P) hm;have hso:=fun o=>Ar (P:=P) o hm
 have hu:=Ex hT hkt;have hus:=gB hT hs;have hfk:=lV (P:=P) (w:=w) hus s l;cases hf:cN s l with
 | none=>
   have e1:mset l s n=l++[(s,n)]:=by unfold mset;simp[hf]
   rw[e1];rw[hf] at hfk;simp only[Wy] at hfk;refine⟨setB w b (.map ((fc l).toArray.push ⟨aW s,.int .i64 n,l.length⟩) (l.length+1)),⟨_,_,_,.inr ⟨rfl,rfl⟩,Xu h hj (by simp) (x':=.map (l++[(s,n)])) (by simp) hb ?_,.any _⟩,?_⟩
   ·show _=Obj.map _ _
    rw[CN];simp
   ·simp[Instr.mapUpdate,R4 hu,hgo,hso,fh hus,hfk]
 | some p=>
   have e1:mset l s n=ml l p n:=by unfold mset;simp[hf]
   rw[e1];obtain⟨hp1,hp2⟩:=mM hf;rw[hf] at hfk;simp only[Wz] at hfk;have he:(fc l)[p]?=some ⟨aW s,.int .i64 (l.getD p ([],0)).2,p⟩:=by rw[fc,ik,RH hp1];rw[RG,RH hp1] at hp2 ⊢;simp at hp2;simp[hp2]
   have hmod:(fc l).modify p (fun e=>{ e with key:=aW s,val:=.int .i64 n })=fc (ml l p n):=by
    have:=congrArg Array.toList (CR l p n);simp only[WP] at this;rw[this];apply SR;intro j;rw[T5,T5]
    by_cases e:p=j
    ·subst e;rw[he];simp
    ·cases (fc l)[j]?<;>simp[e]
   have hk2:Instr.keyThatStays (aW s) (aW s)=pure (aW s):=by unfold Instr.keyThatStays;simp[Instr.sameBits,aW,qv]
   refine⟨setB w b (.map (fc (ml l p n)).toArray l.length),⟨_,_,_,.inr ⟨rfl,rfl⟩,Xu h hj (by simp) (x':=.map (ml l p n)) (by simp) hb ?_,.any _⟩,?_⟩
   ·show _=Obj.map _ _
    simp[ml]
   ·simp[Instr.mapUpdate,R4 hu,hgo,hso,fh hus,hfk,he,hk2,hmod,-List.getD_eq_getElem?_getD]
theorem tp(hT:ap P T)(h:X5 E ρ hp w)(t:TypeId)(x k:AV)(ux uk:Value)(hx:RepV ρ (okB E ρ hp w) w x ux)(hk:RepV ρ (okB E ρ hp w) w k uk)(ho:(ky T t x k hp).ok) :
  ∃ u,RepV ρ (okB E ρ hp w) w (ky T t x k hp).v u∧(Instr.lookup t ux uk false).run P w=.ok u w:=by
 revert ho;unfold ky;split
 case h_2=>exact fun h=>h.elim
 rename_i j s;split
 case h_2=>exact fun h=>h.elim
 rename_i l hj;intro ho;simp only at ho ⊢;obtain⟨b,m,rfl,hb⟩:=Ou hx
 have:=LY hk;subst this;unfold ip at ho;split at ho
 case h_2=>exact ho.elim
 rename_i kt et hkt;obtain⟨hs,hi,hz⟩:=ho;have hm:=IK h hj hb;have hgo:=Cb (P:=P) hm;have hso:=fun o=>Ar (P:=P) o hm
 have hu:=Ex hT hkt;have hus:=gB hT hs;have hfk:=lV (P:=P) (w:=w) hus s l;refine⟨.int .i64 (lL l s),.d _ _ (.int _ _),?_⟩;cases hf:cN s l with
 | none=>
   obtain⟨z,hz1,_,hz2⟩:=eZ (P:=P) hT (t:=et) (by rw[hi];simp);have hz3:z=.int .i64 0:=by unfold TI.agg at hz2;rw[hi,hz] at hz2;simpa[DV.val] using hz2
   subst hz3;have e3:lL l s=0:=by unfold lL;simp[hf]
   rw[hf] at hfk;simp only[Wy] at hfk;rw[e3];simp[Instr.lookup,R4 hu,hgo,hso,fh hus,hfk,hz1]
 | some p=>
   have e3:lL l s=(l.getD p ([],0)).2:=by unfold lL;simp[hf]
   rw[hf] at hfk;simp only[Wz] at hfk;rw[e3];simp[Instr.lookup,R4 hu,hgo,hso,fh hus,hfk]
end
end Go.Proofs.YtjcooccnfkfjhaaGreatDoor
namespace Go.Proofs.YtjcooccnfkfjhaaGreatDoor
set_option linter.unusedVariables false
set_option linter.unusedSimpArgs false
open Go Go.RowKit
/-! ### A row of the call's own, looked at as data -/
mutual
def bt(hp:List ABlk):AV→AV
 | .osl k sz off n=>
   match hp[k]? with
   |some (.rows _ rs)=>.d (.sl sz ((rs.drop off).take n))
   |_=>.any
 |.agg cs=>.agg (dh hp cs)
 |.tup cs=>.tup (dh hp cs)
 |v=>v
def dh(hp:List ABlk):List AV→List AV
 |[]=>[]
 |x::r=>bt hp x::dh hp r
end
mutual
def cc(hp:List ABlk):AV→Prop
 | .osl k sz off n=>
   match hp[k]? with
   |some (.rows sz' rs)=>sz=sz'∧off+n≤rs.length
   |_=>False
 |.agg cs=>ch hp cs
 |.tup cs=>ch hp cs
 |_=>True
def ch(hp:List ABlk):List AV→Prop
 |[]=>True
 |x::r=>cc hp x∧ch hp r
end
mutual
def cp:AV→Prop
 |.d _=>True
 |.dp _ _=>True
 |.any=>True
 |.agg cs=>cF cs
 |.tup cs=>cF cs
 |_=>False
def cF:List AV→Prop
 |[]=>True
 |x::r=>cp x∧cF r
end
section
variable {P:Program} {T:TypeId→TI} {E:Ent} {s:ASt} {ρ ρ':List (Option (Nat×Nat))} {a:Act} {w w':World} {hp:List ABlk}
theorem eC{hp:List ABlk}:∀{cs:List AV} {j:Nat},(dh hp cs)[j]?=(cs[j]?).map (bt hp)
 |[],j=>by simp[dh]
 |x::r,0=>by simp[dh]
 |x::r,j+1=>by simp only[dh,Tt];exact eC
theorem fd{hp:List ABlk}:∀{cs:List AV},(dh hp cs).length=cs.length
 |[]=>rfl
 |x::r=>by simp[dh,fd (cs:=r)]
theorem eq{hp:List ABlk}:∀{cs:List AV} {j:Nat} {x:AV},ch hp cs→cs[j]?=some x→cc hp x
 |y::r,0,x,h,hx=>by simp at hx;subst hx;exact h.1
 |y::r,j+1,x,h,hx=>eq h.2 (by simpa using hx)
theorem dc:∀{cs:List AV} {j:Nat} {x:AV},cF cs→cs[j]?=some x→cp x
 |y::r,0,x,h,hx=>by simp at hx;subst hx;exact h.1
 |y::r,j+1,x,h,hx=>dc h.2 (by simpa using hx)
theorem nu{ok ok':Nat→Prop}{k:Nat}(hB:qb ρ ok w hp)(hok:∀ b,ok b→ok' b)(hrow:∀(b m sz:Nat) (rs:List (List DV)),hp[k]?=some (.rows sz rs)→ρ[k]?=some (some (b,m))→ok' b)
  {sz off n:Nat} {u:Value} (h:RepV ρ ok w (.osl k sz off n) u) (hf:cc hp (.osl k sz off n)):RepV [] ok' w (bt hp (.osl k sz off n)) u:=by
 simp only[cc] at hf;simp only[bt];split at hf
 ·rename_i sz' rs hcs
  obtain⟨h1,h2⟩:=hf;subst h1
  try simp only[hcs]
  have hlen:((rs.drop off).take n).length=n:=aJ _ _ _ h2;cases h with
  | oslnil _ _ A hk=>
    have:(rs.drop 0).take 0=[]:=by simp
    rw[this];exact .d _ _ (.sl sz [] A 0 (fun _ _=>undef) (by simp) (by simp) (by simp) (by simp))
  | osl _ _ _ _ b m cap hk hm hn=>
    obtain⟨us,ty,fz,hw,hum,hone,hrl,hsz,hr⟩:=hB.1 k _ b m hcs hk (by simp);rw[show Value.slice (some ⟨b,off*sz,none⟩) n cap=Value.slice (some ⟨b,off*sz,none⟩) ((rs.drop off).take n).length cap from by rw[hlen]]
    have cellOf:∀(i:Nat) (r:List DV),((rs.drop off).take n)[i]?=some r→∀(j:Nat) (c:DV),r[j]?=some c→∃ v,us[(off+i)*sz+j]?=some v:=by
     intro i r hi j c hj;have a1:=(ak _ _ _ _ _ hi).1;have hil:off+i<rs.length:=(RM.1 a1).1;have hjl:j<sz:=by rw[←hrl r (Sl a1)];exact(RM.1 hj).1
     have:(off+i+1)*sz≤rs.length*sz:=Sc _ hil;rw[Sz] at this;have hlt:(off+i)*sz+j<us.size:=by omega
     exact⟨_,Tn hlt⟩
    refine .d _ _ (.sl sz _ _ _ (fun i j=>us.getD ((off+i)*sz+j) undef) (by rw[hlen];exact hn) (fun r hr'=>hrl r (fq hr')) (fun _=>⟨b,off*sz,rfl,hrow b m sz rs hcs hk,fun i r hi j c hj=>?_⟩) fun i r hi j c hj=>?_)
    ·obtain⟨v,hv⟩:=cellOf i r hi j c hj
     rw[bc hw,show off*sz+(i*sz+j)=(off+i)*sz+j from by rw[Sz];omega,hv];simp[Ti,hv]
    ·obtain⟨v,hv⟩:=cellOf i r hi j c hj
     have a1:=(ak _ _ _ _ _ hi).1
     have:=hr (off+i) r a1 j c v hj hv;have e:us.getD ((off+i)*sz+j) undef=v:=by simp[Ti,hv]
     rw[e];exact this.mono fun b hb=>⟨hok b hb,rfl⟩
 ·exact hf.elim
theorem La{ok ok':Nat→Prop}(hB:qb ρ ok w hp)(hok:∀ b,ok b→ok' b)(hrow:∀(k b m sz:Nat) (rs:List (List DV)),hp[k]?=some (.rows sz rs)→ρ[k]?=some (some (b,m))→ok' b)
  {v:AV} {u:Value} (h:RepV ρ ok w v u):cc hp v→cp (bt hp v)→RepV [] ok' w (bt hp v) u:=by
 induction h with
 |d x v h=>intro _ _;simp only[bt];exact .d _ _ (h.mono fun b hb=>⟨hok b hb,rfl⟩)
 | agg cs us hl h1 hr ih=>
   intro hf hn;simp only[bt,cc,cp] at hf hn ⊢;refine .agg _ _ (by rw[fd];exact hl) h1 fun j c u hc hu=>?_
   rw[eC] at hc;obtain⟨x,hx,rfl⟩:=RY.1 hc;exact ih j x u hx hu (eq hf hx) (dc (j:=j) hn (by rw[eC,hx];rfl))
 | tup cs us hl hr ih=>
   intro hf hn;simp only[bt,cc,cp] at hf hn ⊢;refine .tup _ _ (by rw[fd];exact hl) fun j c u hc hu=>?_
   rw[eC] at hc;obtain⟨x,hx,rfl⟩:=RY.1 hc;exact ih j x u hx hu (eq hf hx) (dc (j:=j) hn (by rw[eC,hx];rfl))
 |ptr k off b m h=>intro _ hn;simp[bt,cp] at hn
 |rp k sz i off b m h=>intro _ hn;simp[bt,cp] at hn
 |osl k sz off n b m cap h hm hn'=>intro hf _;exact nu hB hok (hrow k) (.osl k sz off n b m cap h hm hn') hf
 |oslnil k sz A h=>intro hf _;exact nu hB hok (hrow k) (.oslnil k sz A h) hf
 | dp row off b o u hb hc hr=>
   intro _ _;simp only[bt];exact .dp row off b o u (hok b hb) hc fun j c hj=>(hr j c hj).mono fun b hb=>⟨hok b hb,rfl⟩
 |clo f first caps us vs hl hl' hr hr' ih ih'=>intro _ hn;simp[bt,cp] at hn
 |mp k b m h=>intro _ hn;simp[bt,cp] at hn
 |gd g v u ht hf ih=>intro _ hn;simp[bt,cp] at hn
 |any u=>intro _ _;simp only[bt];exact .any u
theorem jc{ok ok':Nat→Prop}(hok:∀ b,ok b→ok' b∧w'.heap[b]?=w.heap[b]?){v:AV}{u:Value}(h:RepV ρ ok w v u):cp v→RepV ρ' ok' w' v u:=by
 induction h with
 |d x v h=>intro _;exact .d _ _ (h.mono hok)
 |agg cs us hl h1 hr ih=>intro hn;exact .agg _ _ hl h1 fun j c u hc hu=>ih j c u hc hu (dc hn hc)
 |tup cs us hl hr ih=>intro hn;exact .tup _ _ hl fun j c u hc hu=>ih j c u hc hu (dc hn hc)
 | dp row off b o u hb hc hr=>
   intro _;exact .dp row off b o u (hok b hb).1 (fun j c hj=>(bM (hok b hb).2).trans (hc j c hj)) fun j c hj=>(hr j c hj).mono hok
 |any u=>intro _;exact .any u
 |_=>intro hn;simp[cp] at hn
/-! ### Rows that are given up -/
mutual
def eB:AV→List Nat
 |.osl k _ _ _=>[k]
 |.agg cs=>dB cs
 |.tup cs=>dB cs
 |_=>[]
def dB:List AV→List Nat
 |[]=>[]
 |x::r=>eB x++dB r
end
def killIds:List Nat→List ABlk→List ABlk
 |[],hp=>hp
 |k::r,hp=>killIds r (hp.set k .dead)
theorem HStep.killIds(h:X5 E ρ hp w):∀(ks:List Nat) ,HStep E ρ hp w ρ (killIds ks hp) w:=by
 intro ks
 induction ks generalizing hp with
 |nil=>exact HStep.below h ⟨rfl,rfl,rfl,RP _,fun _ _=>rfl⟩
 |cons k r ih=>exact(Xp h k).trans (ih (Xp h k).heap)
theorem na:∀{ks:List Nat} {hp:List ABlk} {j:Nat} {x:ABlk},(_root_.Go.Proofs.YtjcooccnfkfjhaaGreatDoor.killIds ks hp)[j]?=some x→x≠.dead→j∉ks∧hp[j]?=some x
 |[],hp,j,x,h,_=>⟨by simp,h⟩
 | k::r,hp,j,x,h,hd=>by
   obtain⟨h1,h2⟩:=na (ks:=r) h hd;rcases am h2 with⟨_,e,_⟩|⟨hne,h3⟩
   ·exact absurd e hd
   ·exact⟨by simp[h1,hne],h3⟩
theorem kx:∀{cs:List AV} {j:Nat} {x:AV} {k:Nat},cs[j]?=some x→k∈eB x→k∈dB cs
 |y::r,0,x,k,h,hk=>by simp at h;subst h;simp[dB,hk]
 |y::r,j+1,x,k,h,hk=>by simp only[dB,Sp];exact .inr (kx (by simpa using h) hk)
theorem nR{ok ok':Nat→Prop}(hB:qb ρ ok w hp)(hok:∀ b,ok b→ok' b){v:AV}{u:Value}(h:RepV ρ ok w v u) :
  (∀ k,k∈eB v→∀(b m sz:Nat) (rs:List (List DV)),hp[k]?=some (.rows sz rs)→ρ[k]?=some (some (b,m))→ok' b)→cc hp v→cp (bt hp v)→RepV [] ok' w (bt hp v) u:=by
 induction h with
 |d x v h=>intro _ _ _;simp only[bt];exact .d _ _ (h.mono fun b hb=>⟨hok b hb,rfl⟩)
 | agg cs us hl h1 hr ih=>
   intro hi hf hn;simp only[bt,cc,cp] at hf hn ⊢;refine .agg _ _ (by rw[fd];exact hl) h1 fun j c u hc hu=>?_
   rw[eC] at hc;obtain⟨x,hx,rfl⟩:=RY.1 hc;exact ih j x u hx hu (fun k hk=>hi k (kx hx hk)) (eq hf hx) (dc (j:=j) hn (by rw[eC,hx];rfl))
 | tup cs us hl hr ih=>
   intro hi hf hn;simp only[bt,cc,cp] at hf hn ⊢;refine .tup _ _ (by rw[fd];exact hl) fun j c u hc hu=>?_
   rw[eC] at hc;obtain⟨x,hx,rfl⟩:=RY.1 hc;exact ih j x u hx hu (fun k hk=>hi k (kx hx hk)) (eq hf hx) (dc (j:=j) hn (by rw[eC,hx];rfl))
 |ptr k off b m h=>intro _ _ hn;simp[bt,cp] at hn
 |rp k sz i off b m h=>intro _ _ hn;simp[bt,cp] at hn
 | osl k sz off n b m cap h hm hn'=>
   intro hi hf hn;refine nu hB hok (hi k (by simp[eB])) (.osl k sz off n b m cap h hm hn') hf
 |oslnil k sz A h=>intro hi hf _;exact nu hB hok (hi k (by simp[eB])) (.oslnil k sz A h) hf
 | dp row off b o u hb hc hr=>
   intro _ _ _;simp only[bt];exact .dp row off b o u (hok b hb) hc fun j c hj=>(hr j c hj).mono fun b hb=>⟨hok b hb,rfl⟩
 |clo f first caps us vs hl hl' hr hr' ih ih'=>intro _ _ hn;simp[bt,cp] at hn
 |mp k b m h=>intro _ _ hn;simp[bt,cp] at hn
 |gd g v u ht hf ih=>intro _ _ hn;simp[bt,cp] at hn
 |any u=>intro _ _ _;simp only[bt];exact .any u
theorem Ea(h:X5 E ρ hp w)(h0:E.ρ0=[])(ks:List Nat):∀ k,k∈ks→∀(b m sz:Nat) (rs:List (List DV)),hp[k]?=some (.rows sz rs)→ρ[k]?=some (some (b,m))→okB E ρ (killIds ks hp) w b:=by
 intro k hk b m sz rs hx hb;obtain⟨q1,us,ty,fz,q2,_⟩:=h.blk k _ b m hx hb (by simp)
 have hnl:¬ fH ρ (killIds ks hp) b:=by
  intro⟨j,x,m',hx',hd,hj⟩;obtain⟨h1,h2⟩:=na hx' hd
  have:=h.inj j k x _ b m' m h2 hx hd (by simp) hj hb;subst this;exact h1 hk
 rcases q1 with q1|q1
 ·obtain⟨k',m',hk'⟩:=E.hL b q1
  rw[h0] at hk';simp at hk'
 ·exact⟨.inr q1,a8 q2,hnl⟩
theorem Bj(h:X5 E ρ hp w)(h0:E.ρ0=[]){ks:List Nat}{v:AV}{u:Value}(hv:RepV ρ (okB E ρ hp w) w v u)(hks:∀ k,k∈eB v→k∈ks)(hf:cc hp v)(hn:cp (bt hp v)) :
  RepV ρ (okB E ρ (killIds ks hp) w) w (bt hp v) u:=by
 have:=nR h.blks (fun b hb=>((HStep.killIds h ks).ok b hb).1) hv (fun k hk=>Ea h h0 ks k (hks k hk)) hf hn;exact jc (fun b hb=>⟨hb,rfl⟩) this hn
def eP(np:Nat)(hp:List ABlk)(ps:List (Nat×AV)):Prop×List (Nat×AV)×List ABlk:=
 match dB (ps.map fun p=>p.2) with
 |[]=>(True,ps,hp)
 |k::r=>if np=0 then(ch hp (ps.map fun p=>p.2)∧cF (dh hp (ps.map fun p=>p.2)),ps.map (fun p=>(p.1,bt hp p.2)),killIds (k::r) hp) else(True,ps,hp)
theorem wb(h:X5 E ρ hp w){np:Nat}(hnp:E.ρ0.length=np){ps:List (Nat×AV)}{vs:List (Nat×Value)}(hl:vs.length=ps.length)
  (hr:∀(j:Nat) (x:Nat×AV) (y:Nat×Value),ps[j]?=some x→vs[j]?=some y→y.1=x.1∧RepV ρ (okB E ρ hp w) w x.2 y.2) (hk:(eP np hp ps).1) :
  HStep E ρ hp w ρ (eP np hp ps).2.2 w∧vs.length=(eP np hp ps).2.1.length∧
  ∀(j:Nat) (x:Nat×AV) (y:Nat×Value),(eP np hp ps).2.1[j]?=some x→vs[j]?=some y→y.1=x.1∧RepV ρ (okB E ρ (eP np hp ps).2.2 w) w x.2 y.2:=by
 revert hk;unfold eP;split
 ·intro _;exact⟨HStep.below h ⟨rfl,rfl,rfl,RP _,fun _ _=>rfl⟩,hl,hr⟩
 rename_i k r hids;split
 ·rename_i h0
  intro⟨hf,hn⟩;have hE:E.ρ0=[]:=Sf (by rw[hnp];exact h0);refine⟨HStep.killIds h _,by simpa using hl,fun j x y hx hy=>?_⟩;simp only[RS] at hx;obtain⟨p,hp',rfl⟩:=RY.1 hx;obtain⟨q1,q2⟩:=hr j p y hp' hy;have hm:(ps.map fun p=>p.2)[j]?=some p.2:=by rw[RS,hp'];rfl
  refine⟨q1,Bj h hE q2 (fun i hi=>by rw[←hids];exact kx hm hi) (eq hf hm) (dc (j:=j) hn (by rw[eC,hm];rfl))⟩
 ·intro _;exact⟨HStep.below h ⟨rfl,rfl,rfl,RP _,fun _ _=>rfl⟩,hl,hr⟩
end
end Go.Proofs.YtjcooccnfkfjhaaGreatDoor
namespace Go.Proofs.YtjcooccnfkfjhaaGreatDoor
set_option linter.unusedVariables false
set_option linter.unusedSimpArgs false
open Go Go.RowKit
def HA:List DV→Prop
 |[.int .u8 n]=>0≤n∧n<256
 |_=>False
def ub:List DV→UInt8
 |[.int .u8 n]=>UInt8.ofNat n.toNat
 |_=>0
def x9(rows:List (List DV)):Prop:=∀ r,r∈rows→HA r
theorem O6(b:UInt8):ub (aL b)=b:=by simp[ub,aL]
theorem N6(l:List UInt8):(l.map aL).map ub=l:=by
 rw[WX]
 conv=>rhs;rw[←List.map_id l]
 exact VL fun b _=>O6 b
theorem Le(b:UInt8):HA (aL b):=by simp only[HA,aL];have:=b.toNat_lt;omega
theorem lg(l:List UInt8):x9 (l.map aL):=fun r hr=>by obtain⟨b,_,rfl⟩:=SV.1 hr;exact Le b
def GK(hp:List ABlk):AV→Prop×List (List DV)
 |.d (.str _)=>(False,[])
 |x=>srcRows hp 1 x
theorem Mt(hp:List ABlk)(x:AV)(h:∀ l,x≠.d (.str l)):GK hp x=srcRows hp 1 x:=by
 unfold GK;split
 ·exact absurd rfl (h _)
 ·rfl
def gr(T:TypeId→TI)(hp:List ABlk)(src dst:TypeId)(vx:AV):PR:=
 match (T src).kind,(T dst).kind with
 |.slice e,.str=>⟨de vx∧(match (T e).kind with|.int .u8=>True|_=>False)∧(GK hp (aj vx)).1∧x9 (GK hp (aj vx)).2,.d (.str ((GK hp (aj vx)).2.map ub))⟩
 |k,_=>⟨(k matches .other)=false∧(g1 vx (rK (T dst))).ok,(g1 vx (rK (T dst))).v⟩
def lf(T:TypeId→TI)(hp:List ABlk)(src dst:TypeId)(vx:AV):MR:=
 match (T src).kind,(T dst).kind,aj vx with
 |.str,.slice e,.d (.str l)=>⟨de vx∧(match (T e).kind with|.int .u8=>True|_=>False),.osl hp.length 1 0 l.length,hp++[.bytes l]⟩
 |_,_,_=>⟨(gr T hp src dst vx).ok,(gr T hp src dst vx).v,hp⟩
section
variable {P:Program} {E:Ent} {ρ:List (Option (Nat×Nat))} {hp:List ABlk} {w:World}
theorem EG{T:TypeId→TI}{e:TypeId}(h:match (T e).kind with|.int .u8=>True|_=>False):(T e).kind=.int .u8:=by
 split at h
 ·assumption
 ·exact h.elim
theorem pF(b o j:Nat):(Addr.mk b o none).add j=⟨b,o+j,none⟩:=by
 unfold Addr.add
 by_cases h:j=0
 ·simp[h]
 ·simp[h]
theorem FQ(hB:qb ρ (okB E ρ hp w) w hp){x:AV}{u:Value}(hx:RepV ρ (okB E ρ hp w) w x u)(h:(srcRows hp 1 x).1)(h8:x9 (srcRows hp 1 x).2)
  {e dst src:TypeId} (hs:P.underlying src=some (.slice e)) (he:P.underlying e=some (.int .u8)) (hd:P.underlying dst=some .string) (hstr:∀ l,x≠.d (.str l)) :
  ∀ w',Below w.heap.size w w'→(convert src dst u).run P w'=.ok (aW ((srcRows hp 1 x).2.map ub)) w':=by
 have hnil:∀(A:Option Addr) (c:Nat) (w':World),(convert src dst (.slice A 0 c)).run P w'=.ok (aW []) w':=by
  intro A c w';cases A with
  | none=>
    rw[run_convert_bytes_string w' src dst e none 0 c hs he hd];rfl
  |some a=>exact Ue w' src dst e a c [] hs he hd (fun j hj=>by simp at hj)
 have hcell:∀{c:List DV} {v:Value} {ok:Nat→Prop},HA c→∀ y,c[0]?=some y→X7 ok w y v→v=.int .u8 ((ub c).toNat:Int):=by
  intro c v ok h y hy hr;unfold HA at h;split at h
  ·rename_i n
   simp at hy;subst hy;cases hr;simp only[ub]
   have:n.toNat%256=n.toNat:=Ts (by omega);simp[this];omega
  ·exact h.elim
 unfold srcRows at h h8 ⊢;split at h
 ·rename_i sz' rows
  simp only at h h8 ⊢;subst h;cases hx with|d _ _ hx=>cases hx with|sl _ _ A cap uu hcap hsz hc hr=>
  intro w' hb
  by_cases h0:0<rows.length
  ·obtain⟨b,o,rfl,hb1,hcells⟩:=hc h0
   have:=Ue (P:=P) w' src dst e ⟨b,o,none⟩ cap (rows.map ub) hs he hd (fun j hj=>by
    have hjl:j<rows.length:=by simpa using hj
    have hrow:rows[j]?=some rows[j]:=RH hjl;have hlen:=hsz _ (SD hjl);have h0':(rows[j])[0]?=some ((rows[j])[0]'(by omega)):=RH (by omega);have q:=hcells j _ hrow 0 _ h0';have q2:=hcell (h8 _ (SD hjl)) _ h0' (hr j _ hrow 0 _ h0');rw[q2] at q;have hbl:w'.heap[b]?=w.heap[b]?:=hb.block b hb1.2.1;have q3:=(bM (o:=o+(j*1+0)) hbl).trans q;simp only[TP,S8] at q3
    rw[pF,Uj];exact q3)
   simpa[aW] using this
  ·have:rows=[]:=Sf (by omega)
   subst this;exact hnil _ _ _
 ·exact absurd rfl (hstr _)
 ·simp only
  cases hx with|d _ _ hx=>
  obtain⟨A,rfl⟩:=jd hx;intro w' _;exact hnil _ _ _
 ·rename_i k sz' off n
  split at h
  ·rename_i sz2 rs hk
   simp only[hk] at h h8 ⊢;obtain⟨e1,e2,e3⟩:=h;subst e1;subst e2;intro w' hb;cases hx with
   |oslnil _ _ A hk'=>simpa using hnil _ _ _
   | osl _ _ _ _ b m cap hρ hm hn=>
     obtain⟨us,ty,fz,hw,hum,hone,hrl,hsz,hr⟩:=hB.1 k _ b m hk hρ (by simp);have hlen:((rs.drop off).take n).length=n:=aJ _ _ _ e3;have hbl:w'.heap[b]?=w.heap[b]?:=hb.block b (a8 hw)
     have:=Ue (P:=P) w' src dst e ⟨b,off*1,none⟩ cap (((rs.drop off).take n).map ub) hs he hd (fun j hj=>by
      have hjl:j<((rs.drop off).take n).length:=by simpa using hj
      have hrow:((rs.drop off).take n)[j]?=some ((rs.drop off).take n)[j]:=RH hjl;have hrow':=(ak _ _ _ _ _ hrow).1;have hl1:=hrl _ (Sl hrow');have h0':(((rs.drop off).take n)[j])[0]?=some ((((rs.drop off).take n)[j])[0]'(by omega)):=RH (by omega);have hlt:off+j<rs.length:=(RM.1 hrow').1;have hcu:us[(off+j)*1+0]?=some (us[(off+j)*1+0]'(by omega)):=Tn (by omega);have q2:=hcell (h8 _ (SD hjl)) _ h0' (hr (off+j) _ hrow' 0 _ _ h0' hcu);have q:w.cell? ⟨b,(off+j)*1+0,none⟩=some (us[(off+j)*1+0]'(by omega)):=by rw[bc hw];exact hcu
      rw[q2] at q;have q3:=(bM (o:=(off+j)*1+0) hbl).trans q;simp only[TP,S8] at q3
      rw[pF,Uj,TP];exact q3)
     rw[RO,hlen] at this;exact this
  ·rename_i sz2 rs hk
   simp only[hk] at h h8 ⊢;obtain⟨e1,e2,e3⟩:=h;subst e1;subst e2;intro w' hb;cases hx with
   |oslnil _ _ A hk'=>simpa using hnil _ _ _
   | osl _ _ _ _ b m cap hρ hm hn=>
     obtain⟨us,ty,fz,hw,hum,hone,hrl,hsz,hr⟩:=hB.1 k _ b m hk hρ (by simp);have hlen:((rs.drop off).take n).length=n:=aJ _ _ _ e3;have hbl:w'.heap[b]?=w.heap[b]?:=hb.block b (a8 hw)
     have:=Ue (P:=P) w' src dst e ⟨b,off*1,none⟩ cap (((rs.drop off).take n).map ub) hs he hd (fun j hj=>by
      have hjl:j<((rs.drop off).take n).length:=by simpa using hj
      have hrow:((rs.drop off).take n)[j]?=some ((rs.drop off).take n)[j]:=RH hjl;have hrow':=(ak _ _ _ _ _ hrow).1;have hl1:=hrl _ (Sl hrow');have h0':(((rs.drop off).take n)[j])[0]?=some ((((rs.drop off).take n)[j])[0]'(by omega)):=RH (by omega);have hlt:off+j<rs.length:=(RM.1 hrow').1;have hcu:us[(off+j)*1+0]?=some (us[(off+j)*1+0]'(by omega)):=Tn (by omega);have q2:=hcell (h8 _ (SD hjl)) _ h0' (hr (off+j) _ hrow' 0 _ _ h0' hcu);have q:w.cell? ⟨b,(off+j)*1+0,none⟩=some (us[(off+j)*1+0]'(by omega)):=by rw[bc hw];exact hcu
      rw[q2] at q;have q3:=(bM (o:=(off+j)*1+0) hbl).trans q;simp only[TP,S8] at q3
      rw[pF,Uj,TP];exact q3)
     rw[RO,hlen] at this;exact this
  ·rename_i l hk
   simp only[hk] at h h8 ⊢;obtain⟨e1,_,e3⟩:=h;subst e1;generalize hrs:l.map aL=rs at *
   intro w' hb;cases hx with
   |oslnil _ _ A hk'=>simpa using hnil _ _ _
   | osl _ _ _ _ b m cap hρ hm hn=>
     obtain⟨us,ty,fz,hw,hum,hone,hrl,hsz,hr⟩:=hB.1 k _ b m hk hρ (by simp);rw[hrs] at hrl hsz hr;have hlen:((rs.drop off).take n).length=n:=aJ _ _ _ e3;have hbl:w'.heap[b]?=w.heap[b]?:=hb.block b (a8 hw)
     have:=Ue (P:=P) w' src dst e ⟨b,off*1,none⟩ cap (((rs.drop off).take n).map ub) hs he hd (fun j hj=>by
      have hjl:j<((rs.drop off).take n).length:=by simpa using hj
      have hrow:((rs.drop off).take n)[j]?=some ((rs.drop off).take n)[j]:=RH hjl;have hrow':=(ak _ _ _ _ _ hrow).1;have hl1:=hrl _ (Sl hrow');have h0':(((rs.drop off).take n)[j])[0]?=some ((((rs.drop off).take n)[j])[0]'(by omega)):=RH (by omega);have hlt:off+j<rs.length:=(RM.1 hrow').1;have hcu:us[(off+j)*1+0]?=some (us[(off+j)*1+0]'(by omega)):=Tn (by omega);have q2:=hcell (h8 _ (SD hjl)) _ h0' (hr (off+j) _ hrow' 0 _ _ h0' hcu);have q:w.cell? ⟨b,(off+j)*1+0,none⟩=some (us[(off+j)*1+0]'(by omega)):=by rw[bc hw];exact hcu
      rw[q2] at q;have q3:=(bM (o:=(off+j)*1+0) hbl).trans q;simp only[TP,S8] at q3
      rw[pF,Uj,TP];exact q3)
     rw[RO,hlen] at this;exact this
  ·exact h.elim
 ·exact h.elim
theorem yo(T:TypeId→TI)(ok:Nat→Prop)(l:List UInt8)(cap:Nat):eo ρ ok w (bytesRow ⟨l.toArray⟩ cap) (.bytes l):=by
 refine⟨fun u hu=>?_,fun r hr=>?_,?_,fun i r hi j c u hj hu=>?_⟩
 ·simp only[bytesRow,Array.toList_append,Sp,Array.toList_map,SV,Array.toList_replicate,UK] at hu
  rcases hu with⟨b,_,rfl⟩|⟨_,rfl⟩<;>rfl
 ·obtain⟨b,_,rfl⟩:=SV.1 hr;rfl
 ·simp[bytesRow]
 ·rw[RS] at hi
  obtain⟨b,hb,rfl⟩:=RY.1 hi
  match j,hj with
  | 0,hj=>
    simp[aL] at hj;subst hj;have hil:i<l.length:=(RM.1 hb).1;simp only[bytesRow,TP,S8] at hu;rw[VT (by simpa using hil)] at hu;simp[hb] at hu;subst hu;exact .int _ _
  |j+1,hj=>simp[aL] at hj
theorem pE{T:TypeId→TI}(hT:ap P T){a:Act}(hB:qb ρ (okB E ρ hp w) w hp)(hlt:∀ b,okB E ρ hp w b→b<w.heap.size){src dst:TypeId}{vx:AV}{x:Operand}(hx:RepV ρ (okB E ρ hp w) w vx (a.eval x))
  (hk:(gr T hp src dst vx).ok):∃ u,RepV ρ (okB E ρ hp w) w (gr T hp src dst vx).v u∧∀ w',Below w.heap.size w w'→(convert src dst (a.eval x)).run P w'=.ok u w':=by
 revert hk;unfold gr;split
 ·rename_i e hs hd
  intro⟨hg,h8,h1,h2⟩;have hx':=ai hx hg;have hstr:∀ l,aj vx≠.d (.str l):=fun l hl=>by rw[hl] at h1;exact h1
  rw[Mt _ _ hstr] at h1 h2 ⊢;exact⟨_,.d _ _ (.str _),FQ hB hx' h1 h2 (aC hT hs) (nl hT (EG h8)) (gB hT hd) hstr⟩
 ·rename_i k k' hne
  intro⟨h1,h2⟩;obtain⟨hg,h2⟩:=h2;obtain⟨u,hu,hr⟩:=xb (P:=P) hT src dst _ _ (let ⟨d,hd⟩:=(aP hT (an h1)).und;⟨d,hd.1⟩) (ai hx hg) h2;exact⟨u,hu,fun w' _=>hr w'⟩
theorem yW{T:TypeId→TI}(hT:ap P T){a:Act}(h:X5 E ρ hp w){src dst:TypeId}{vx:AV}{x:Operand}(hx:RepV ρ (okB E ρ hp w) w vx (a.eval x))
  (hk:(lf T hp src dst vx).ok):∃ u w' ρ',RepV ρ' (okB E ρ' (lf T hp src dst vx).hp w') w' (lf T hp src dst vx).v u∧HStep E ρ hp w ρ' (lf T hp src dst vx).hp w'∧(convert src dst (a.eval x)).run P w=.ok u w':=by
 revert hk;unfold lf;split
 ·rename_i e l hs hd hv
  intro⟨hg,h8⟩;have hx':=ai hx hg;rw[hv] at hx';generalize hu:a.eval x=u at hx';cases hx' with|d _ _ hx'=>cases hx' with|str _=>
  have hrun:=run_bytes_of_string (P:=P) w src dst e ⟨l.toArray⟩ (gB hT hs) (aC hT hd) (nl hT (EG h8));have hd0:Below w.heap.size w w.drew:=⟨rfl,rfl,rfl,RP _,fun _ _=>rfl⟩;have h0:=HStep.below h hd0;have hb:=yo (ρ:=ρ) (w:=w.drew) T (okB E ρ hp w.drew) l (grownCap w l.length 0 e);have hsz:(bytesRow ⟨l.toArray⟩ (grownCap w l.length 0 e)).size=l.length+(grownCap w l.length 0 e-l.length):=by simp[bytesRow,lK]
  have hge:l.length≤grownCap w l.length 0 e:=by have:=WE w l.length 0 e;omega
  have hp1:=HStep.push h0.heap (bytesRow ⟨l.toArray⟩ (grownCap w l.length 0 e)) e ((bytesRow ⟨l.toArray⟩ (grownCap w l.length 0 e)).size,(bytesRow ⟨l.toArray⟩ (grownCap w l.length 0 e)).size+1) (.bytes l)
   (fun j hj hh=>by omega) (.inl ⟨_,rfl⟩) hb
  refine⟨_,_,_,?_,h0.trans hp1,hrun⟩
  have:=RepV.osl (ρ:=ρ++[some (w.drew.heap.size,(bytesRow ⟨l.toArray⟩ (grownCap w l.length 0 e)).size)]) (ok:=okB E (ρ++[some (w.drew.heap.size,(bytesRow ⟨l.toArray⟩ (grownCap w l.length 0 e)).size)]) (hp++[.bytes l]) (pushB w.drew (.cells (bytesRow ⟨l.toArray⟩ (grownCap w l.length 0 e)) e ((bytesRow ⟨l.toArray⟩ (grownCap w l.length 0 e)).size,(bytesRow ⟨l.toArray⟩ (grownCap w l.length 0 e)).size+1))))
   (w:=pushB w.drew (.cells (bytesRow ⟨l.toArray⟩ (grownCap w l.length 0 e)) e ((bytesRow ⟨l.toArray⟩ (grownCap w l.length 0 e)).size,(bytesRow ⟨l.toArray⟩ (grownCap w l.length 0 e)).size+1)))
   hp.length 1 0 l.length w.drew.heap.size (bytesRow ⟨l.toArray⟩ (grownCap w l.length 0 e)).size (grownCap w l.length 0 e) (by rw[←h.len];simp) (by rw[hsz];simp only[SO,TP];omega) hge
  exact this
 ·intro hk
  obtain⟨u,hu,hr⟩:=pE hT h.blks (fun b hb=>hb.2.1) hx hk;have hb0:Below w.heap.size w w:=⟨rfl,rfl,rfl,RP _,fun _ _=>rfl⟩;exact⟨u,w,ρ,hu,HStep.below h hb0,hr w hb0⟩
end
end Go.Proofs.YtjcooccnfkfjhaaGreatDoor
