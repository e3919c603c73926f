/- For every list of deeds that package aviarytop plays, behind as many as may be done each further one is refused and changes nothing: the law TopEnds. No condition but the bound of the second form: at most 1048576 values and letters. -/
import Derived.Test.YtjcooccnfkfjhaaGreatDoorTopsK14
import Derived.Test.YtjcooccnfkfjhaaGreatDoorCards
import Derived.Test.YtjcooccnfkfjhaaGreatDoorTie
import Derived.Deep.DeepHandedRow
import Derived.Lib.LaidTab
import Derived.Lib.LaidU8
import Derived.MakeChecks
namespace Go.Proofs.YtjcooccnfkfjhaaGreatDoor.topEnds
open Go Go.RowKit Go.ChangeShapes Go.WideShapes Go.ChangeAt
set_option linter.unusedSimpArgs false
set_option linter.unusedVariables false

theorem own:ownKnob Tryz.prog.godebug=none:=by kernel_rfl

theorem jC {H:Type} (d:DataW H):1≤Rows.uptoBulk d:=by
  cases d with
  | lit l=>cases l<;>simp [Rows.uptoBulk]
  | _=>simp [Rows.uptoBulk]
theorem bI {H:Type} {d:DataW H}:∀ {l:List (DataW H)},d∈l→Rows.uptoBulk d≤Rows.uptoBulkAll l
  | x::r,h=>by
    simp only [Rows.uptoBulkAll]
    rcases List.mem_cons.1 h with e | e
    · subst e;omega
    · have:=bI e;omega
theorem length_le {H:Type}:∀ (l:List (DataW H)),l.length≤Rows.uptoBulkAll l
  | []=>by simp [Rows.uptoBulkAll]
  | x::r=>by have:=jC x;have:=length_le r;simp only [Rows.uptoBulkAll,List.length_cons];omega
def bk (H:Type):Bulk H where
  b:=Rows.uptoBulk
  str:=fun s=>by simp [Rows.uptoBulk]
  slice:=fun elems spare d hd=>by have:=bI hd;simp only [Rows.uptoBulk];omega
  slen:=fun elems spare=>by have:=length_le elems;simp only [Rows.uptoBulk];omega
  agg:=fun parts d hd=>by have:=bI hd;simp only [Rows.uptoBulk];omega

/-- The cells of a listed variable. -/
def iD:Nat→DataW Unit→List Value
  | 0,_=>[]
  | _+1,.lit (.int k v)=>[.int k v]
  | n+1,.agg ps=>ps.flatMap (iD n)
  | _,_=>[]
def lay (x:DataW Unit):Obj→Obj
  | .cells _ t frozen=>.cells (iD 4 x).toArray t frozen
  | o=>o
/-- A world for the witness: the settled one, with the listed variables laid. -/
noncomputable def laidWorld (os:Os):World:=
  { World.holding Tryz.prog os ⟨#[],#[],[]⟩ with heap:=((((((World.holding Tryz.prog os ⟨#[],#[],[]⟩).heap.modify 4 (lay Rows.laid_math_bits_deBruijn32tab)).modify 5 (lay Rows.laid_math_bits_deBruijn64tab)).modify 3 (lay Rows.laid_internal_strconv_uint64pow10)).modify 2 (lay Rows.laid_unicode_utf8_acceptRanges)).modify 1 (lay Rows.laid_unicode_utf8_first)) }
theorem fk (os:Os):laidMet Tryz.prog Rows.topEndsRow.laid ((laidWorld os).forCall (fun _ _=>0) ⟨#[],#[.slice none 0 0,.agg #[.int .i64 0,.int .i64 0,.int .i64 0,.int .i64 0,.int .i64 0,.string ⟨#[]⟩,.string ⟨#[]⟩,.int .i64 0,.int .i64 0,.int .i64 0,.int .i64 0,.int .i64 0,.bool false]],[]⟩).memory:=
  laidMet_of_run' 8 (by kernel_rfl) (by kernel_rfl)
theorem reads (os:Os) {H:Type} (enc:TypeId×Value→H):∃ places,DataW.whole enc Tryz.prog ((laidWorld os).forCall (fun _ _=>0) ⟨#[],#[.slice none 0 0,.agg #[.int .i64 0,.int .i64 0,.int .i64 0,.int .i64 0,.int .i64 0,.string ⟨#[]⟩,.string ⟨#[]⟩,.int .i64 0,.int .i64 0,.int .i64 0,.int .i64 0,.int .i64 0,.bool false]],[]⟩).memory Tryz.f11.params.toList Rows.topEndsSpec.vars false (#[.slice none 0 0,.agg #[.int .i64 0,.int .i64 0,.int .i64 0,.int .i64 0,.int .i64 0,.string ⟨#[]⟩,.string ⟨#[]⟩,.int .i64 0,.int .i64 0,.int .i64 0,.int .i64 0,.int .i64 0,.bool false]]:Array Value).toList 8=some ([.nil,.agg [.lit (.int .i64 0),.lit (.int .i64 0),.lit (.int .i64 0),.agg [.lit (.int .i64 0),.lit (.int .i64 0),.lit (.string []),.lit (.string []),.lit (.int .i64 0),.lit (.int .i64 0)],.lit (.int .i64 0),.lit (.int .i64 0),.lit (.int .i64 0),.lit (.bool false)]],[],places):=
  ⟨[],by kernel_rfl⟩

theorem gF {W:World} (h:laidMetH Tryz.checked.prog Rows.topEndsUptoRow.laid W):cV W:=by
  rw [MakeChecks.laidMetH_plain _ _ _ (by kernel_rfl)] at h
  obtain ⟨g,t,cs,fuel,p,h1,h2,h3,h4⟩:=Lib.laidMet.reads h (List.mem_cons_of_mem _ (List.mem_cons_of_mem _ (List.mem_cons_self ..)))
  obtain rfl:g=3:=Option.some.inj (h1.symm.trans (by kernel_rfl))
  obtain rfl:t=291:=Option.some.inj (h2.symm.trans (by kernel_rfl))
  have hc:=Lib.cells_of_tab (k:=.u64) (zs:=Lib.pow10Tab) Tryz.underlying291 Tryz.underlying285 (by kernel_rfl) (by kernel_rfl) (h4.trans (congrArg (fun d=>some (d,p)) (by kernel_rfl)))
  intro q hq
  simp only [wu,List.mem_singleton] at hq
  subst hq
  unfold World.var? at h3
  rw [h1,Option.bind_some] at h3
  cases hw:W.heap[3]? with
  | none=>rw [hw] at h3;cases h3
  | some o=>
    rw [hw] at h3
    cases o with
    | cells us ty fz=>
      simp only [Option.some.injEq] at h3
      subst h3
      exact ⟨ty,fz,by simp only [hw];rw [←hc]⟩
    | _=>cases h3

set_option maxRecDepth 100000 in
theorem jD (os:Os) (started:os.Started) (H:Type) (enc:TypeId×Value→H) (F:Stop.Interp) :
    ReturnsInHanded {} Tryz.checked os 11 .any ((Rows.OpenSpec.upto Rows.topEndsSpec).preRow enc Tryz.prog Tryz.f11 Rows.topEndsUptoRow.domain false Rows.topEndsUptoRow.laid) (((Rows.OpenSpec.upto Rows.topEndsSpec).at F).post enc Tryz.prog Tryz.f11 false true false false):=by
  obtain ⟨places,hx⟩:=reads os enc
  refine returnsInHanded_of_row (C:=Tryz.checked) (s:=(Rows.OpenSpec.upto Rows.topEndsSpec)) own started (by kernel_rfl) Tryz.func11
    (witness_row_at (enc:=enc) (C:=Tryz.checked) false (laidWorld os) #[.slice none 0 0,.agg #[.int .i64 0,.int .i64 0,.int .i64 0,.int .i64 0,.int .i64 0,.string ⟨#[]⟩,.string ⟨#[]⟩,.int .i64 0,.int .i64 0,.int .i64 0,.int .i64 0,.int .i64 0,.bool false]] rfl (by kernel_rfl) (by kernel_rfl) (by kernel_rfl)
      (OpenSpec.preRow_of_cond 8 hx (by kernel_rfl) (fun k hk=>by cases hk;kernel_rfl) (by kernel_rfl) (fk os))) ?_
  intro W base args ds gs before hval hW _ hcond hwt hlm _ _
  exact kP (s:=Rows.topEndsSpec) bF (by kernel_rfl) (m:=6) (by kernel_rfl) (by kernel_rfl) rfl Tryz.underlying4 rfl (fun ds h=>by match ds,h with | [_,_],_=>rfl) (fun dss h hsm=>DZ dss h (hsm (bk H) 1048576 fun d hd=>Nat.le_trans (bI hd) (of_decide_eq_true (hcond _ rfl)))) (gF hlm) hval hW hwt

theorem jU {a b:Bool} (h1:a=true) (h2:b=true):(a&&b)=true:=by rw [h1,h2];rfl
set_option maxHeartbeats 16000000 in
theorem vn:Rows.TopEndsUptoSaid:=
  OpenClaim.holds_of_cond 11 Tryz.f11 rfl rfl rfl rfl rfl rfl rfl ⟨rfl,rfl,rfl,rfl,rfl⟩ rfl rfl rfl rfl rfl (by kernel_rfl) Tryz.func11 (by unfold joinedFacts;(repeat' with_reducible refine jU ?_ ?_);all_goals decide +kernel)
    (of_decide_eq_true (by kernel_rfl)) (by unfold Func.isWrapper;first | (rw [if_pos (by decide +kernel)];kernel_rfl) | (rw [if_neg (by decide +kernel)];exact ⟨rfl,rfl⟩))
    (fun os started H enc _ F=>by rw [OpenClaim.pre_eq_preRow];exact jD os started H enc F)

theorem plain (f : FuncId) (fn : Func) (hf : Tryz.pinned.checked.prog.funcNamed "aviary/aviarytop.TopEnds" = some f) (hfn : Tryz.pinned.checked.prog.funcs[f]? = some fn) :
    false=Tryz.pinned.checked.prog.looks []∧∀ (j:Nat) t,fn.params[j]?=some t→Tryz.pinned.checked.prog.wantsStandIn t=false:=by
  obtain rfl : f = 11 := Option.some.inj ((show Tryz.prog.funcNamed "aviary/aviarytop.TopEnds" = some 11 by kernel_rfl).symm.trans hf) |>.symm
  obtain rfl:fn=Tryz.f11:=(Option.some.inj (Tryz.func11.symm.trans hfn)).symm
  refine ⟨by kernel_rfl,fun j t ht=>?_⟩
  have hm:=Array.mem_of_getElem? ht
  rw [Tryz.params11] at hm
  simp only [List.mem_toArray,List.mem_cons,List.not_mem_nil,or_false] at hm
  rcases hm with rfl | rfl<;>exact (show Tryz.prog.wantsStandIn _=false by kernel_rfl)

/-- The card. -/
theorem jA:Rows.TopEndsUptoCardSaid:=
  Claim7.holds_tied_plain_at .later [] _ _ _ _ vn (fun _ h=>by cases h) (by kernel_rfl) (fun _ h=>by cases h) topEndsUpto_row_tie rfl ⟨rfl,rfl⟩ (by kernel_rfl) rfl plain (by kernel_rfl)
#print axioms jA
end Go.Proofs.YtjcooccnfkfjhaaGreatDoor.topEnds
