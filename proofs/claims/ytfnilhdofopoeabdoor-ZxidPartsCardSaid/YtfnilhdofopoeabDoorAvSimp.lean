/- Which words the abstract walk opens. No condition. -/
import Derived.Test.YtfnilhdofopoeabDoorAvTab
namespace Go.Proofs.YtfnilhdofopoeabDoor
set_option linter.unusedVariables false
set_option linter.unusedSimpArgs false
open Go Go.RowKit

theorem strip_d (x : DV) : strip (.d x) = .d x := rfl
theorem strip_agg (x : List AV) : strip (.agg x) = .agg x := rfl
theorem strip_tup (x : List AV) : strip (.tup x) = .tup x := rfl
theorem strip_ptr (k o : Nat) : strip (.ptr k o) = .ptr k o := rfl
theorem strip_mp (k : Nat) : strip (.mp k) = .mp k := rfl
theorem strip_rp (k s i o : Nat) : strip (.rp k s i o) = .rp k s i o := rfl
theorem strip_osl (k s i o : Nat) : strip (.osl k s i o) = .osl k s i o := rfl
theorem strip_dp (r : List DV) (o : Nat) : strip (.dp r o) = .dp r o := rfl
theorem strip_clo (f : FuncId) (a b : List AV) : strip (.clo f a b) = .clo f a b := rfl
theorem strip_gd (g : Bool) (v : AV) : strip (.gd g v) = v := rfl
theorem strip_any : strip .any = .any := rfl
theorem gdok_d (x : DV) : gdok (.d x) = True := rfl
theorem gdok_agg (x : List AV) : gdok (.agg x) = True := rfl
theorem gdok_tup (x : List AV) : gdok (.tup x) = True := rfl
theorem gdok_ptr (k o : Nat) : gdok (.ptr k o) = True := rfl
theorem gdok_mp (k : Nat) : gdok (.mp k) = True := rfl
theorem gdok_rp (k s i o : Nat) : gdok (.rp k s i o) = True := rfl
theorem gdok_osl (k s i o : Nat) : gdok (.osl k s i o) = True := rfl
theorem gdok_dp (r : List DV) (o : Nat) : gdok (.dp r o) = True := rfl
theorem gdok_clo (f : FuncId) (a b : List AV) : gdok (.clo f a b) = True := rfl
theorem gdok_gd (g : Bool) (v : AV) : gdok (.gd g v) = (g = true) := rfl
theorem gdok_any : gdok .any = True := rfl
theorem TI.agg_mk (a b : Nat) (z : List DV) (k : TK) (c : List TK) : TI.agg { size := a, bytes := b, zero := z, kind := k, cmp := c } = (match k with | .struct _ => true | .array _ _ => true | _ => false) := rfl
theorem aget_nil (t : Nat) : aget [] t = .any := rfl
theorem aget_cons (k : Nat) (v : AV) (r : List (Nat × AV)) (t : Nat) : aget ((k, v) :: r) t = if k = t then v else aget r t := rfl

theorem valA_tmp (s : ASt) (t : Tmp) : valA s (.tmp t) = aget s.env t := rfl
theorem valA_int (s : ASt) (k : IntKind) (n : Int) : valA s (.const (.int k n)) = .d (.int k n) := rfl
theorem valA_bool (s : ASt) (b : Bool) : valA s (.const (.bool b)) = .d (.bool b) := rfl
theorem valA_str (s : ASt) (b : ByteArray) : valA s (.const (.string b)) = .d (.str b.data.toList) := rfl
theorem valA_nilsl (s : ASt) : valA s (.const (.slice none 0 0)) = .d (.sc (.slice none 0 0)) := rfl
theorem valA_nilptr (s : ASt) : valA s (.const (.pointer none)) = .d (.sc (.pointer none)) := rfl
theorem valA_func (s : ASt) (f : FuncId) : valA s (.func f) = .d (.sc (.func (.func f) #[] #[])) := rfl

theorem aops_nil (P : Program) (T : TypeId → TI) (ops : Array Oper) (Q : ASt → Prop) (s : ASt) : aops P T ops Q [] s = Q s := rfl
theorem aops_cons (P : Program) (T : TypeId → TI) (ops : Array Oper) (Q : ASt → Prop) (o : Oper) (r : List Oper) (s : ASt) : aops P T ops Q (o :: r) s = astep P T ops s o (aops P T ops Q r) := rfl
theorem aopsQ_nil (P : Program) (T : TypeId → TI) (ops : Array Oper) (Q : ASt → Prop) (s : ASt) : aopsQ P T ops Q [] s = Q s := rfl
theorem aopsQ_cons (P : Program) (T : TypeId → TI) (ops : Array Oper) (Q : ASt → Prop) (o : Oper) (r : List Oper) (s : ASt) : aopsQ P T ops Q (o :: r) s = astepQ P T ops s o (aopsQ P T ops Q r) := rfl
theorem takes_nil (p : Plan) : Plan.takes [] p = p := rfl
theorem takes_cons (k : Nat) (ks : List Nat) (p : Plan) : Plan.takes (k :: ks) p = .take k (Plan.takes ks p) := rfl
theorem aplan_done (P : Program) (T : TypeId → TI) (ops : Array Oper) (Q : ASt → Prop) (s : ASt) : aplan P T ops Q .done s = Q s := rfl
theorem aplan_take (P : Program) (T : TypeId → TI) (ops : Array Oper) (Q : ASt → Prop) (k : Nat) (p : Plan) (s : ASt) : aplan P T ops Q (.take k p) s = astepE P T ops s ops[k]? (aplan P T ops Q p) := rfl
theorem aplan_fork (P : Program) (T : TypeId → TI) (ops : Array Oper) (Q : ASt → Prop) (k k' : Nat) (p p' : Plan) (s : ASt) : aplan P T ops Q (.fork k p k' p') s = (astepE P T ops s ops[k]? (aplan P T ops Q p) ∧ astepE P T ops s ops[k']? (aplan P T ops Q p')) := rfl
theorem aplan_forks (P : Program) (T : TypeId → TI) (ops : Array Oper) (Q : ASt → Prop) (k k' k2 : Nat) (p p' p2 : Plan) (s : ASt) : aplan P T ops Q (.forks k p k' p' k2 p2) s = (astepE P T ops s ops[k]? (aplan P T ops Q p) ∧ astepE P T ops s ops[k']? (aplan P T ops Q p') ∧ astepE P T ops s ops[k2]? (aplan P T ops Q p2)) := rfl
theorem astepE_some (P : Program) (T : TypeId → TI) (ops : Array Oper) (Q : ASt → Prop) (o : Oper) (s : ASt) : astepE P T ops s (some o) Q = bif isEffOp o.op then astep P T ops s o Q else astepQ P T ops s o Q := rfl
theorem aopsD_nil (P : Program) (T : TypeId → TI) (ops : Array Oper) (Q : ASt → Prop) (s : ASt) : aopsD P T ops Q [] s = Q s := rfl
theorem aopsD_cons (P : Program) (T : TypeId → TI) (ops : Array Oper) (Q : ASt → Prop) (o : Oper) (r : List Oper) (s : ASt) : aopsD P T ops Q (o :: r) s = bif isEffOp o.op then astep P T ops s o (aopsD P T ops Q r) else astepQ P T ops s o (aopsD P T ops Q r) := rfl
theorem gdoks_nil : gdoks [] = True := rfl
theorem gdoks_cons (x : AV) (r : List AV) : gdoks (x :: r) = (gdok x ∧ gdoks r) := rfl
theorem frzL_nil (hp : List ABlk) : frzL hp [] = [] := rfl
theorem frzL_cons (hp : List ABlk) (x : AV) (r : List AV) : frzL hp (x :: r) = frzV hp x :: frzL hp r := rfl
theorem frzOks_nil (hp : List ABlk) : frzOks hp [] = True := rfl
theorem frzOks_cons (hp : List ABlk) (x : AV) (r : List AV) : frzOks hp (x :: r) = (frzOk hp x ∧ frzOks hp r) := rfl
theorem noIds_nil : noIds [] = True := rfl
theorem noIds_cons (x : AV) (r : List AV) : noIds (x :: r) = (noId x ∧ noIds r) := rfl
theorem idsL_nil : idsL [] = [] := rfl
theorem idsL_cons (x : AV) (r : List AV) : idsL (x :: r) = idsV x ++ idsL r := rfl
theorem renL_nil (f : Nat → Nat) : renL f [] = [] := rfl
theorem renL_cons (f : Nat → Nat) (x : AV) (r : List AV) : renL f (x :: r) = renV f x :: renL f r := rfl
theorem inL_nil (n : Nat) : inL n [] = True := rfl
theorem inL_cons (n : Nat) (x : AV) (r : List AV) : inL n (x :: r) = (inV n x ∧ inL n r) := rfl
theorem killIds_nil (hp : List ABlk) : killIds [] hp = hp := rfl
theorem killIds_cons (k : Nat) (r : List Nat) (hp : List ABlk) : killIds (k :: r) hp = killIds r (hp.set k .dead) := rfl
theorem envLe_nil (f : Nat → Nat) (n : Nat) (e : List (Nat × AV)) : envLe f n e [] = True := rfl
theorem envLe_cons (f : Nat → Nat) (n : Nat) (e : List (Nat × AV)) (t : Nat) (v : AV) (r : List (Nat × AV)) : envLe f n e ((t, v) :: r) = ((aget e t = renV f v ∧ inV n v) ∧ envLe f n e r) := rfl
theorem hpLe_nil (f : Nat → Nat) (n : Nat) (hp : List ABlk) (i : Nat) : hpLe f n hp i [] = True := rfl
theorem hpLe_cons (f : Nat → Nat) (n : Nat) (hp : List ABlk) (i : Nat) (x : ABlk) (r : List ABlk) : hpLe f n hp i (x :: r) = ((x = .dead ∨ (hp[f i]? = some (renB f x) ∧ inB n x)) ∧ hpLe f n hp (i + 1) r) := rfl
theorem frzE_nil (hp : List ABlk) (e : List (Nat × AV)) : frzE hp e [] = True := rfl
theorem frzE_cons (hp : List ABlk) (e : List (Nat × AV)) (t : Nat) (v : AV) (r : List (Nat × AV)) : frzE hp e ((t, v) :: r) = (((aget e t = v) ∨ (frzOk hp (aget e t) ∧ noId (frzV hp (aget e t)) ∧ v = frzV hp (aget e t))) ∧ frzE hp e r) := rfl
theorem aresL_nil (T : TypeId → TI) (s : ASt) : aresL T s [] = (True, []) := rfl
theorem aresL_cons (T : TypeId → TI) (s : ASt) (r : ResultVar) (l : List ResultVar) : aresL T s (r :: l) = ((ares1 T s r).ok ∧ (aresL T s l).1, (ares1 T s r).v :: (aresL T s l).2) := rfl
theorem apar_nil (k : Nat) : apar k [] = [] := rfl
theorem apar_cons (k : Nat) (x : AV) (r : List AV) : apar k (x :: r) = (k, x) :: apar (k + 1) r := rfl
theorem chunk_zero (sz : Nat) (cs : List AV) : chunk sz 0 cs = some [] := rfl
theorem chunk_succ (sz n : Nat) (cs : List AV) : chunk sz (n + 1) cs = (match dvsOf (cs.take sz), chunk sz n (cs.drop sz) with | some r, some l => some (r :: l) | _, _ => none) := rfl
theorem dvsOf_nil : dvsOf [] = some [] := rfl
theorem dvsOf_cons (x : AV) (r : List AV) : dvsOf (x :: r) = (match dvOf x, dvsOf r with | some y, some l => some (y :: l) | _, _ => none) := rfl
theorem eqLeaves_nil : eqLeaves [] [] [] = (True, true) := rfl
theorem eqLeaves_cons (k : TK) (ks : List TK) (x y : AV) (xs ys : List AV) : eqLeaves (k :: ks) (x :: xs) (y :: ys) = ((eqLeaf k x y).1 ∧ (eqLeaves ks xs ys).1, (eqLeaf k x y).2 && (eqLeaves ks xs ys).2) := rfl
theorem fillA_nil (p : Nat → Option (Nat × Nat)) (cs : List AV) : fillA p [] cs = (True, cs) := rfl
theorem fillA_cons (p : Nat → Option (Nat × Nat)) (i : Nat) (v : AV) (r : List (Nat × AV)) (cs : List AV) : fillA p ((i, v) :: r) cs = (match p i with | none => (False, cs) | some (off, size) => ((acells v).length = size ∧ off + (acells v).length ≤ cs.length ∧ (isTup v = false) ∧ (fillA p r (cs.take off ++ acells v ++ cs.drop (off + (acells v).length))).1, (fillA p r (cs.take off ++ acells v ++ cs.drop (off + (acells v).length))).2)) := rfl
theorem scalL_nil : scalL [] = some [] := rfl
theorem scalL_cons (x : AV) (r : List AV) : scalL (x :: r) = (match scalV x, scalL r with | some u, some l => some (u :: l) | _, _ => none) := rfl
theorem coeL_nil : coeL [] [] = True := rfl
theorem coeL_cons (x y : AV) (r l : List AV) : coeL (x :: r) (y :: l) = (coeV x y ∧ coeL r l) := rfl
theorem putAll_nil (f : Nat → Nat) (hp : List ABlk) (r : List ABlk) : putAll f hp [] r = hp := by cases r <;> rfl
theorem putAll_cons (f : Nat → Nat) (hp : List ABlk) (i : Nat) (m : List Nat) (x : ABlk) (r : List ABlk) : putAll f hp (i :: m) (x :: r) = putAll f (hp.set i (renB f x)) m r := rfl
theorem killRows_nil : killRows [] = [] := rfl
theorem killRows_rows_ (sz : Nat) (rs : List (List DV)) (r : List ABlk) : killRows (.rows sz rs :: r) = .dead :: killRows r := rfl
theorem killRows_cells (cs : List AV) (r : List ABlk) : killRows (.cells cs :: r) = .cells cs :: killRows r := rfl
theorem killRows_dead (r : List ABlk) : killRows (.dead :: r) = .dead :: killRows r := rfl
theorem frzV_d (hp : List ABlk) (x : DV) : frzV hp (.d x) = .d x := rfl
theorem frzV_agg (hp : List ABlk) (x : List AV) : frzV hp (.agg x) = .agg (frzL hp x) := rfl
theorem frzV_tup (hp : List ABlk) (x : List AV) : frzV hp (.tup x) = .tup (frzL hp x) := rfl
theorem frzV_ptr (hp : List ABlk) (k o : Nat) : frzV hp (.ptr k o) = .ptr k o := rfl
theorem frzV_mp (hp : List ABlk) (k : Nat) : frzV hp (.mp k) = .mp k := rfl
theorem frzV_rp (hp : List ABlk) (k sz i o : Nat) : frzV hp (.rp k sz i o) = .rp k sz i o := rfl
theorem frzV_osl (hp : List ABlk) (k sz o n : Nat) : frzV hp (.osl k sz o n) = (match hp[k]? with | some (.rows _ rs) => .d (.sl sz ((rs.drop o).take n)) | _ => .any) := rfl
theorem frzV_dp (hp : List ABlk) (w : List DV) (o : Nat) : frzV hp (.dp w o) = .dp w o := rfl
theorem frzV_clo (hp : List ABlk) (g : FuncId) (x y : List AV) : frzV hp (.clo g x y) = .clo g x y := rfl
theorem frzV_gd (hp : List ABlk) (g : Bool) (v : AV) : frzV hp (.gd g v) = .gd g v := rfl
theorem frzV_any (hp : List ABlk)  : frzV hp (.any) = .any := rfl
theorem frzOk_d (hp : List ABlk) (x : DV) : frzOk hp (.d x) = True := rfl
theorem frzOk_agg (hp : List ABlk) (x : List AV) : frzOk hp (.agg x) = frzOks hp x := rfl
theorem frzOk_tup (hp : List ABlk) (x : List AV) : frzOk hp (.tup x) = frzOks hp x := rfl
theorem frzOk_ptr (hp : List ABlk) (k o : Nat) : frzOk hp (.ptr k o) = True := rfl
theorem frzOk_mp (hp : List ABlk) (k : Nat) : frzOk hp (.mp k) = True := rfl
theorem frzOk_rp (hp : List ABlk) (k sz i o : Nat) : frzOk hp (.rp k sz i o) = True := rfl
theorem frzOk_osl (hp : List ABlk) (k sz o n : Nat) : frzOk hp (.osl k sz o n) = (match hp[k]? with | some (.rows sz' rs) => sz = sz' ∧ o + n ≤ rs.length | _ => False) := rfl
theorem frzOk_dp (hp : List ABlk) (w : List DV) (o : Nat) : frzOk hp (.dp w o) = True := rfl
theorem frzOk_clo (hp : List ABlk) (g : FuncId) (x y : List AV) : frzOk hp (.clo g x y) = True := rfl
theorem frzOk_gd (hp : List ABlk) (g : Bool) (v : AV) : frzOk hp (.gd g v) = True := rfl
theorem frzOk_any (hp : List ABlk)  : frzOk hp (.any) = True := rfl
theorem noId_d  (x : DV) : noId (.d x) = True := rfl
theorem noId_agg  (x : List AV) : noId (.agg x) = noIds x := rfl
theorem noId_tup  (x : List AV) : noId (.tup x) = noIds x := rfl
theorem noId_ptr  (k o : Nat) : noId (.ptr k o) = False := rfl
theorem noId_mp  (k : Nat) : noId (.mp k) = False := rfl
theorem noId_rp  (k sz i o : Nat) : noId (.rp k sz i o) = False := rfl
theorem noId_osl  (k sz o n : Nat) : noId (.osl k sz o n) = False := rfl
theorem noId_dp  (w : List DV) (o : Nat) : noId (.dp w o) = True := rfl
theorem noId_clo  (g : FuncId) (x y : List AV) : noId (.clo g x y) = False := rfl
theorem noId_gd  (g : Bool) (v : AV) : noId (.gd g v) = False := rfl
theorem noId_any   : noId (.any) = True := rfl
theorem idsV_d  (x : DV) : idsV (.d x) = [] := rfl
theorem idsV_agg  (x : List AV) : idsV (.agg x) = idsL x := rfl
theorem idsV_tup  (x : List AV) : idsV (.tup x) = idsL x := rfl
theorem idsV_ptr  (k o : Nat) : idsV (.ptr k o) = [] := rfl
theorem idsV_mp  (k : Nat) : idsV (.mp k) = [] := rfl
theorem idsV_rp  (k sz i o : Nat) : idsV (.rp k sz i o) = [] := rfl
theorem idsV_osl  (k sz o n : Nat) : idsV (.osl k sz o n) = [k] := rfl
theorem idsV_dp  (w : List DV) (o : Nat) : idsV (.dp w o) = [] := rfl
theorem idsV_clo  (g : FuncId) (x y : List AV) : idsV (.clo g x y) = [] := rfl
theorem idsV_gd  (g : Bool) (v : AV) : idsV (.gd g v) = [] := rfl
theorem idsV_any   : idsV (.any) = [] := rfl
theorem renV_d (f : Nat → Nat) (x : DV) : renV f (.d x) = .d x := rfl
theorem renV_agg (f : Nat → Nat) (x : List AV) : renV f (.agg x) = .agg (renL f x) := rfl
theorem renV_tup (f : Nat → Nat) (x : List AV) : renV f (.tup x) = .tup (renL f x) := rfl
theorem renV_ptr (f : Nat → Nat) (k o : Nat) : renV f (.ptr k o) = .ptr (f k) o := rfl
theorem renV_mp (f : Nat → Nat) (k : Nat) : renV f (.mp k) = .mp (f k) := rfl
theorem renV_rp (f : Nat → Nat) (k sz i o : Nat) : renV f (.rp k sz i o) = .rp (f k) sz i o := rfl
theorem renV_osl (f : Nat → Nat) (k sz o n : Nat) : renV f (.osl k sz o n) = .osl (f k) sz o n := rfl
theorem renV_dp (f : Nat → Nat) (w : List DV) (o : Nat) : renV f (.dp w o) = .dp w o := rfl
theorem renV_clo (f : Nat → Nat) (g : FuncId) (x y : List AV) : renV f (.clo g x y) = .clo g (renL f x) (renL f y) := rfl
theorem renV_gd (f : Nat → Nat) (g : Bool) (v : AV) : renV f (.gd g v) = .gd g (renV f v) := rfl
theorem renV_any (f : Nat → Nat)  : renV f (.any) = .any := rfl
theorem inV_d (m : Nat) (x : DV) : inV m (.d x) = True := rfl
theorem inV_agg (m : Nat) (x : List AV) : inV m (.agg x) = inL m x := rfl
theorem inV_tup (m : Nat) (x : List AV) : inV m (.tup x) = inL m x := rfl
theorem inV_ptr (m : Nat) (k o : Nat) : inV m (.ptr k o) = (k < m) := rfl
theorem inV_mp (m : Nat) (k : Nat) : inV m (.mp k) = (k < m) := rfl
theorem inV_rp (m : Nat) (k sz i o : Nat) : inV m (.rp k sz i o) = (k < m) := rfl
theorem inV_osl (m : Nat) (k sz o n : Nat) : inV m (.osl k sz o n) = (k < m) := rfl
theorem inV_dp (m : Nat) (w : List DV) (o : Nat) : inV m (.dp w o) = True := rfl
theorem inV_clo (m : Nat) (g : FuncId) (x y : List AV) : inV m (.clo g x y) = (inL m x ∧ inL m y) := rfl
theorem inV_gd (m : Nat) (g : Bool) (v : AV) : inV m (.gd g v) = inV m v := rfl
theorem inV_any (m : Nat)  : inV m (.any) = True := rfl
theorem scalV_int (k : IntKind) (n : Int) : scalV (.d (.int k n)) = some (.int k n) := rfl
theorem scalV_bool (b : Bool) : scalV (.d (.bool b)) = some (.bool b) := rfl
theorem scalV_str (l : List UInt8) : scalV (.d (.str l)) = some (mkStr l) := rfl
theorem scalV_tup (vs : List AV) : scalV (.tup vs) = (scalL vs).map fun l => .tuple l.toArray := rfl
theorem scalV_agg (cs : List AV) : scalV (.agg cs) = (scalL cs).bind fun l => if l.all (·.oneCell') then some (.agg l.toArray) else none := rfl
theorem coeV_d (x y : DV) : coeV (.d x) (.d y) = (x = y ∨ coeD x y) := by simp only [coeV]
theorem coeV_agg (x y : List AV) : coeV (.agg x) (.agg y) = coeL x y := by simp only [coeV]
theorem coeV_tup (x y : List AV) : coeV (.tup x) (.tup y) = coeL x y := by simp only [coeV]
theorem coeD_nil (n : Nat) : coeD (.sc (.slice none 0 0)) (.sl n []) = True := by simp only [coeD]
theorem coeD_nn : coeD (.sc (.slice none 0 0)) (.sc (.slice none 0 0)) = True := by simp [coeD]
theorem coeD_sl (n m : Nat) (l r : List (List DV)) : coeD (.sl n l) (.sl m r) = (n = m ∧ coeRs l r) := by simp only [coeD]
theorem coeD_int (k : IntKind) (n : Int) (y : DV) : coeD (.int k n) y = (.int k n = y) := by cases y <;> simp [coeD]
theorem coeD_bool (b : Bool) (y : DV) : coeD (.bool b) y = (.bool b = y) := by cases y <;> simp [coeD]
theorem coeD_str (l : List UInt8) (y : DV) : coeD (.str l) y = (.str l = y) := by cases y <;> simp [coeD]
theorem coeRs_nil : coeRs [] [] = True := by simp only [coeRs]
theorem coeRs_cons (r q : List DV) (rs qs : List (List DV)) : coeRs (r :: rs) (q :: qs) = (coeRw r q ∧ coeRs rs qs) := by simp only [coeRs]
theorem coeRw_nil : coeRw [] [] = True := by simp only [coeRw]
theorem coeRw_cons (x y : DV) (r q : List DV) : coeRw (x :: r) (y :: q) = (coeD x y ∧ coeRw r q) := by simp only [coeRw]
theorem coeDV_int (k k' : IntKind) (a b : Int) : (DV.int k a = DV.int k' b) = (k = k' ∧ a = b) := by simp
theorem coeDV_bool (a b : Bool) : (DV.bool a = DV.bool b) = (a = b) := by simp
theorem coeDV_str (a b : List UInt8) : (DV.str a = DV.str b) = (a = b) := by simp

attribute [go_sem] strip_d strip_agg strip_tup strip_ptr strip_mp strip_rp strip_osl strip_dp strip_clo strip_gd strip_any gdok_d gdok_agg gdok_tup gdok_ptr gdok_mp gdok_rp gdok_osl gdok_dp gdok_clo gdok_gd gdok_any
attribute [go_sem] aops_nil aops_cons aopsQ_nil aopsQ_cons aopsD_nil aopsD_cons aopsG_nil aopsG_cons takes_nil takes_cons aplan_done aplan_take aplan_fork aplan_forks astepE_some gdoks_nil gdoks_cons frzL_nil frzL_cons frzOks_nil frzOks_cons noIds_nil noIds_cons idsL_nil idsL_cons renL_nil renL_cons inL_nil inL_cons killIds_nil killIds_cons envLe_nil envLe_cons hpLe_nil hpLe_cons frzE_nil frzE_cons aresL_nil aresL_cons apar_nil apar_cons chunk_zero chunk_succ dvsOf_nil dvsOf_cons eqLeaves_nil eqLeaves_cons fillA_nil fillA_cons scalL_nil scalL_cons coeL_nil coeL_cons putAll_nil putAll_cons killRows_nil killRows_rows_ killRows_cells killRows_dead frzV_d frzV_agg frzV_tup frzV_ptr frzV_mp frzV_rp frzV_osl frzV_dp frzV_clo frzV_gd frzV_any frzOk_d frzOk_agg frzOk_tup frzOk_ptr frzOk_mp frzOk_rp frzOk_osl frzOk_dp frzOk_clo frzOk_gd frzOk_any noId_d noId_agg noId_tup noId_ptr noId_mp noId_rp noId_osl noId_dp noId_clo noId_gd noId_any idsV_d idsV_agg idsV_tup idsV_ptr idsV_mp idsV_rp idsV_osl idsV_dp idsV_clo idsV_gd idsV_any renV_d renV_agg renV_tup renV_ptr renV_mp renV_rp renV_osl renV_dp renV_clo renV_gd renV_any inV_d inV_agg inV_tup inV_ptr inV_mp inV_rp inV_osl inV_dp inV_clo inV_gd inV_any scalV_int scalV_bool scalV_str scalV_tup scalV_agg coeV_d coeV_agg coeV_tup coeD_nil coeD_nn coeD_sl coeD_int coeD_bool coeD_str coeRs_nil coeRs_cons coeRw_nil coeRw_cons coeDV_int coeDV_bool coeDV_str or_self true_or or_true or_false false_or
attribute [go_sem] binPtr.eq_def ptrNil.eq_def binAgg.eq_def eqLeaf.eq_def astep.eq_def astep0.eq_def astepM.eq_def astepQ.eq_def astepQ0.eq_def nilCmp.eq_def nilLen.eq_def anilCmp.eq_def acond.eq_def aput.eq_def dstOk.eq_def isPure.eq_def apure.eq_def g1.eq_def g2.eq_def gdokO.eq_def abin.eq_def binInt.eq_def binStr.eq_def binBool.eq_def aun.eq_def apick.eq_def aext.eq_def anil.eq_def aconv.eq_def aconvX.eq_def aconvM.eq_def srcB.eq_def okU8.eq_def ub.eq_def isEffOp.eq_def alen.eq_def amm.eq_def afld.eq_def apart.eq_def aload.eq_def aidxAddr.eq_def aidx.eq_def aslice.eq_def aslStr.eq_def aslSl.eq_def aslOwn.eq_def aslArr.eq_def bsParts.eq_def renB.eq_def inB.eq_def mAt.eq_def renm.eq_def renBs.eq_def abnd.eq_def abndOk.eq_def acells.eq_def isTup.eq_def abuild.eq_def abuiltin.eq_def aalloc.eq_def abox.eq_def abuildSlice.eq_def amake.eq_def spl.eq_def astore.eq_def dvOf.eq_def blkOf.eq_def srcRows.eq_def srcTy.eq_def appTo.eq_def aappend.eq_def aguard.eq_def gsel.eq_def dstAt.eq_def ajunk.eq_def aunder_true aunder_false acallee.eq_def calm.eq_def isCallOp.eq_def aend.eq_def ares1.eq_def tupOf.eq_def thenA.eq_def
attribute [go_sem] valA_tmp valA_int valA_bool valA_str valA_nilsl valA_nilptr valA_func aget_nil aget_cons ub_rows okU8s_rows TI.agg_mk
attribute [go_sem] IntKind.bits
attribute [go_sem] if_true if_false ite_true ite_false true_and and_true false_and and_false List.length_cons List.length_nil List.map_cons List.map_nil List.nil_append List.cons_append List.append_nil List.getElem?_cons_zero List.getElem?_cons_succ List.getElem?_nil
attribute [go_sem] List.drop_zero List.drop_succ_cons List.take_succ_cons List.take_zero List.take_nil List.drop_nil List.set_cons_zero List.set_cons_succ List.set_nil List.getD_cons_zero List.getD_cons_succ Option.map_some Option.map_none Option.bind_some Option.bind_none Option.getD_some Option.getD_none
attribute [go_sem] Bool.false_eq_true Bool.not_true Bool.not_false Bool.true_and Bool.and_true Bool.false_and Bool.and_false Bool.true_or Bool.or_true Bool.false_or Bool.or_false cond_true cond_false Bool.cond_true_left Bool.cond_false_right Bool.cond_true_right Bool.cond_false_left
attribute [go_sem] forall_const implies_true false_implies imp_self List.length_append List.length_map List.length_set List.length_replicate List.flatten_cons List.flatten_nil List.replicate_succ List.replicate_zero List.toList_toArray List.getElem?_toArray List.size_toArray decide_true decide_false
end Go.Proofs.YtfnilhdofopoeabDoor

