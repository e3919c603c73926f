/- For every list of deeds, each reply, who leads, what was acknowledged, and at the end each server and client, are exactly those of the document: the law WorldPlays. No condition but the bound of the second form: at most 1048576 values and letters. -/
import Derived.Test.YtjcooccnfkfjhaaGreatDoorPlyK8
import Derived.Test.YtjcooccnfkfjhaaGreatDoorCards
import Derived.Test.YtjcooccnfkfjhaaGreatDoorTie
import Derived.Deep.DeepHandedRow
import Derived.Lib.LaidTab
import Derived.Lib.LaidU8
import Derived.MakeChecks
namespace Go.Proofs.YtjcooccnfkfjhaaGreatDoor.worldPlays
open Go Go.RowKit Go.ChangeShapes Go.WideShapes Go.ChangeAt
set_option linter.unusedSimpArgs false
set_option linter.unusedVariables false

theorem own:ownKnob Tryz.prog.godebug=none:=by kernel_rfl

theorem O0 {H:Type} (d:DataW H):1≤Rows.uptoBulk d:=by
 cases d with
 |lit l=>cases l<;>simp [Rows.uptoBulk]
 |_=>simp [Rows.uptoBulk]
theorem sT {H:Type} {d:DataW H}:∀ {l:List (DataW H)},d∈l→Rows.uptoBulk d≤Rows.uptoBulkAll l
 | x::r,h=>by
   simp only [Rows.uptoBulkAll]
   rcases RW.1 h with e|e
   ·subst e;omega
   ·have:=sT e;omega
theorem length_le {H:Type}:∀ (l:List (DataW H)),l.length≤Rows.uptoBulkAll l
 |[]=>by simp [Rows.uptoBulkAll]
 |x::r=>by have:=O0 x;have:=length_le r;simp only [Rows.uptoBulkAll,RQ];omega
def bk (H:Type):Bulk H where
 b:=Rows.uptoBulk
 str:=fun s=>by simp [Rows.uptoBulk]
 slice:=fun elems spare d hd=>by have:=sT hd;simp only [Rows.uptoBulk];omega
 slen:=fun elems spare=>by have:=length_le elems;simp only [Rows.uptoBulk];omega
 agg:=fun parts d hd=>by have:=sT hd;simp only [Rows.uptoBulk];omega

/-- The cells of a listed variable. -/
def Ok:Nat→DataW Unit→List Value
 |0,_=>[]
 |_+1,.lit (.int k v)=>[.int k v]
 |n+1,.agg ps=>ps.flatMap (Ok n)
 |_,_=>[]
def lay (x:DataW Unit):Obj→Obj
 |.cells _ t frozen=>.cells (Ok 4 x).toArray t frozen
 |o=>o
/-- A world for the witness: the settled one, with the listed variables laid. -/
noncomputable def laidWorld (os:Os):World:=
 { World.holding Tryz.prog os ⟨#[],#[],[]⟩ with heap:=((((((World.holding Tryz.prog os ⟨#[],#[],[]⟩).heap.modify 4 (lay Rows.laid_math_bits_deBruijn32tab)).modify 5 (lay Rows.laid_math_bits_deBruijn64tab)).modify 3 (lay Rows.laid_internal_strconv_uint64pow10)).modify 2 (lay Rows.laid_unicode_utf8_acceptRanges)).modify 1 (lay Rows.laid_unicode_utf8_first)) }
theorem Lh (os:Os):laidMet Tryz.prog Rows.worldPlaysRow.laid ((laidWorld os).forCall (fun _ _=>0) ⟨#[],#[.slice none 0 0],[]⟩).memory:=
 laidMet_of_run' 8 (by kernel_rfl) (by kernel_rfl)
theorem reads (os:Os) {H:Type} (enc:TypeId×Value→H):∃ places,DataW.whole enc Tryz.prog ((laidWorld os).forCall (fun _ _=>0) ⟨#[],#[.slice none 0 0],[]⟩).memory Tryz.f4.params.toList Rows.worldPlaysSpec.vars false (#[.slice none 0 0]:Array Value).toList 8=some ([.nil],[],places):=
 ⟨[],by kernel_rfl⟩

theorem My {W:World} (h:laidMetH Tryz.checked.prog Rows.worldPlaysUptoRow.laid W):eY W:=by
 rw [MakeChecks.laidMetH_plain _ _ _ (by kernel_rfl)] at h
 obtain ⟨g,t,cs,fuel,p,h1,h2,h3,h4⟩:=Lib.laidMet.reads h (Si _ (Si _ (SF ..)))
 obtain rfl:g=3:=WC (h1.symm.trans (by kernel_rfl))
 obtain rfl:t=291:=WC (h2.symm.trans (by kernel_rfl))
 have hc:=Lib.cells_of_tab (k:=.u64) (zs:=Lib.pow10Tab) Tryz.underlying291 Tryz.underlying285 (by kernel_rfl) (by kernel_rfl) (h4.trans (congrArg (fun d=>some (d,p)) (by kernel_rfl)))
 intro q hq
 simp only [KP,S5] at hq
 subst hq
 unfold World.var? at h3
 rw [h1,U6] at h3
 cases hw:W.heap[3]? with
 |none=>rw [hw] at h3;cases h3
 | some o=>
   rw [hw] at h3
   cases o with
   | cells us ty fz=>
     simp only [Option.some.injEq] at h3
     subst h3
     exact ⟨ty,fz,by simp only [hw];rw [←hc]⟩
   |_=>cases h3

set_option maxRecDepth 100000 in
theorem OV (os:Os) (started:os.Started) (H:Type) (enc:TypeId×Value→H) (F:Stop.Interp) :
  ReturnsInHanded {} Tryz.checked os 4 .any ((Rows.OpenSpec.upto Rows.worldPlaysSpec).preRow enc Tryz.prog Tryz.f4 Rows.worldPlaysUptoRow.domain false Rows.worldPlaysUptoRow.laid) (((Rows.OpenSpec.upto Rows.worldPlaysSpec).at F).post enc Tryz.prog Tryz.f4 false true false false):=by
 obtain ⟨places,hx⟩:=reads os enc
 refine returnsInHanded_of_row (C:=Tryz.checked) (s:=(Rows.OpenSpec.upto Rows.worldPlaysSpec)) own started (by kernel_rfl) Tryz.func4
  (witness_row_at (enc:=enc) (C:=Tryz.checked) false (laidWorld os) #[.slice none 0 0] rfl (by kernel_rfl) (by kernel_rfl) (by kernel_rfl)
   (OpenSpec.preRow_of_cond 8 hx (by kernel_rfl) (fun k hk=>by cases hk;kernel_rfl) (by kernel_rfl) (Lh os))) ?_
 intro W base args ds gs before hval hW _ hcond hwt hlm _ _
 exact Im (s:=Rows.worldPlaysSpec) dn (by kernel_rfl) (m:=6) (by kernel_rfl) (by kernel_rfl) rfl Tryz.underlying4 rfl (fun ds h=>by match ds,h with|[_],_=>rfl) (fun dss h hsm=>yk dss h (hsm (bk H) 1048576 fun d hd=>R8 (sT hd) (Uz (hcond _ rfl)))) (My hlm) hval hW hwt

theorem OS {a b:Bool} (h1:a=true) (h2:b=true):(a&&b)=true:=by rw [h1,h2];rfl
set_option maxHeartbeats 16000000 in
theorem said:Rows.WorldPlaysUptoSaid:=
 OpenClaim.holds_of_cond 4 Tryz.f4 rfl rfl rfl rfl rfl rfl rfl ⟨rfl,rfl,rfl,rfl,rfl⟩ rfl rfl rfl rfl rfl (by kernel_rfl) Tryz.func4 (by unfold joinedFacts;(repeat' with_reducible refine OS ?_ ?_);all_goals decide +kernel)
  (Uz (by kernel_rfl)) (by unfold Func.isWrapper;first|(rw [RJ (by decide +kernel)];kernel_rfl)|(rw [RI (by decide +kernel)];exact ⟨rfl,rfl⟩))
  (fun os started H enc _ F=>by rw [OpenClaim.pre_eq_preRow];exact OV os started H enc F)

theorem plain (f : FuncId) (fn : Func) (hf : Tryz.pinned.checked.prog.funcNamed "aviary/aviarylaw.WorldPlays" = some f) (hfn : Tryz.pinned.checked.prog.funcs[f]? = some fn) :
  false=Tryz.pinned.checked.prog.looks []∧∀ (j:Nat) t,fn.params[j]?=some t→Tryz.pinned.checked.prog.wantsStandIn t=false:=by
 obtain rfl : f = 4 := Option.some.inj ((show Tryz.prog.funcNamed "aviary/aviarylaw.WorldPlays" = some 4 by kernel_rfl).symm.trans hf) |>.symm
 obtain rfl:fn=Tryz.f4:=(WC (Tryz.func4.symm.trans hfn)).symm
 refine ⟨by kernel_rfl,fun j t ht=>?_⟩
 have hm:=Array.mem_of_getElem? ht
 rw [Tryz.params4] at hm
 simp only [List.mem_toArray,RW,R6,Ua] at hm
 subst hm;exact (show Tryz.prog.wantsStandIn _=false by kernel_rfl)

/-- The card. -/
theorem Pj:Rows.WorldPlaysUptoCardSaid:=
 Claim7.holds_tied_plain_at .later [] _ _ _ _ said (fun _ h=>by cases h) (by kernel_rfl) (fun _ h=>by cases h) worldPlaysUpto_row_tie rfl ⟨rfl,rfl⟩ (by kernel_rfl) rfl plain (by kernel_rfl)
#print axioms Pj
end Go.Proofs.YtjcooccnfkfjhaaGreatDoor.worldPlays
