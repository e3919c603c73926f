/- Which words the abstract walk opens. No condition. -/
import Derived.Test.YtplgghpnijmllaaAvTab
namespace Go.Proofs.Ytplgghpnijmllaa
open Go Go.RowKit

theorem strip_d (x : DV) : strip (.d x) = .d x := rfl
theorem strip_agg (x : List AV) : strip (.agg x) = .agg x := rfl
theorem strip_tup (x : List AV) : strip (.tup x) = .tup x := rfl
theorem strip_ptr (k o : Nat) : strip (.ptr k o) = .ptr k o := rfl
theorem strip_rp (k s i o : Nat) : strip (.rp k s i o) = .rp k s i o := rfl
theorem strip_osl (k s i o : Nat) : strip (.osl k s i o) = .osl k s i o := rfl
theorem strip_dp (r : List DV) (o : Nat) : strip (.dp r o) = .dp r o := rfl
theorem strip_clo (f : FuncId) (a b : List AV) : strip (.clo f a b) = .clo f a b := rfl
theorem strip_gd (g : Bool) (v : AV) : strip (.gd g v) = v := rfl
theorem strip_any : strip .any = .any := rfl
theorem gdok_d (x : DV) : gdok (.d x) = True := rfl
theorem gdok_agg (x : List AV) : gdok (.agg x) = True := rfl
theorem gdok_tup (x : List AV) : gdok (.tup x) = True := rfl
theorem gdok_ptr (k o : Nat) : gdok (.ptr k o) = True := rfl
theorem gdok_rp (k s i o : Nat) : gdok (.rp k s i o) = True := rfl
theorem gdok_osl (k s i o : Nat) : gdok (.osl k s i o) = True := rfl
theorem gdok_dp (r : List DV) (o : Nat) : gdok (.dp r o) = True := rfl
theorem gdok_clo (f : FuncId) (a b : List AV) : gdok (.clo f a b) = True := rfl
theorem gdok_gd (g : Bool) (v : AV) : gdok (.gd g v) = (g = true) := rfl
theorem gdok_any : gdok .any = True := rfl
theorem TI.agg_mk (a b : Nat) (z : List DV) (k : TK) (c : List TK) : TI.agg { size := a, bytes := b, zero := z, kind := k, cmp := c } = (match k with | .struct _ => true | .array _ _ => true | _ => false) := rfl
theorem aget_nil (t : Nat) : aget [] t = .any := rfl
theorem aget_cons (k : Nat) (v : AV) (r : List (Nat × AV)) (t : Nat) : aget ((k, v) :: r) t = if k = t then v else aget r t := rfl

attribute [go_sem] strip_d strip_agg strip_tup strip_ptr strip_rp strip_osl strip_dp strip_clo strip_gd strip_any gdok_d gdok_agg gdok_tup gdok_ptr gdok_rp gdok_osl gdok_dp gdok_clo gdok_gd gdok_any
attribute [go_sem] binAgg eqLeaves eqLeaf awp aops astep astepM aopsQ astepQ acond valA aget_nil aget_cons aput dstOk isPure apure g1 g2 gdoks gdokO abin binInt binStr binBool aun apick aext anil aconv alen amm afld apart aload aidxAddr aidx aslice aslStr aslSl aslOwn aslArr
attribute [go_sem] frzV frzL frzOk frzOks noId noIds renV renL renB inV inL inB mAt envLe hpLe renm putAll renBs scalV scalL coeV coeL frzE killRows
attribute [go_sem] abnd abndOk acells isTup fillA abuild abuiltin aalloc abox abuildSlice amake spl astore dvOf dvsOf chunk blkOf srcRows srcTy appTo aappend aguard gsel dstAt aunder acallee calm isCallOp aend aresL ares1 tupOf TI.agg_mk apar thenA
attribute [go_sem] IntKind.bits
attribute [go_sem] if_true if_false ite_true ite_false true_and and_true false_and and_false List.length_cons List.length_nil List.map_cons List.map_nil List.nil_append List.cons_append List.append_nil List.getElem?_cons_zero List.getElem?_cons_succ List.getElem?_nil
attribute [go_sem] List.drop_zero List.drop_succ_cons List.take_succ_cons List.take_zero List.take_nil List.drop_nil List.set_cons_zero List.set_cons_succ List.set_nil List.getD_cons_zero List.getD_cons_succ Option.map_some Option.map_none Option.bind_some Option.bind_none Option.getD_some Option.getD_none
attribute [go_sem] Bool.false_eq_true Bool.not_true Bool.not_false Bool.true_and Bool.and_true Bool.false_and Bool.and_false Bool.true_or Bool.or_true Bool.false_or Bool.or_false cond_true cond_false Bool.cond_true_left Bool.cond_false_right Bool.cond_true_right Bool.cond_false_left
attribute [go_sem] forall_const implies_true false_implies imp_self List.length_append List.length_map List.length_set List.length_replicate List.flatten_cons List.flatten_nil List.replicate_succ List.replicate_zero List.toList_toArray List.getElem?_toArray List.size_toArray decide_true decide_false
end Go.Proofs.Ytplgghpnijmllaa
