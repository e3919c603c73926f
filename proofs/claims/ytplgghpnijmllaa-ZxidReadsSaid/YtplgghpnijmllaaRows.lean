/-
  No cell of these rows narrows 'for every input' (looked for: loops, veiled, ifaces, maps, wideKeys, modest, calm, conditions, laid).
  DERIVED. THE GIVEN ROWS OF THIS SEAT. 12 by the template 'for every input the law returns true; each argument reads behind the call as it read before'; 0 by the template 'total and deterministic' (their statements: YtplgghpnijmllaaTotals.lean).
  GIVEN WITH THE SEED: the statements are not yours to turn. If you find one false, say at which input.
  Laid BY PROGRAM, IN A SANDBOX (cutbox-rows.mjs): the forced cells as the released guide's own fill.sh prints them over the translation 0571488e26e4e94e… (all of the seat's roots in one cut). By AI agents, Wed Nov 11 2026. No macro, syntax, notation, axiom, sorry.
-/
import Derived.Test.YtplgghpnijmllaaChecked
import GoSem.Claim
import GoSem.ClaimJoined
import GoSem.ClaimMapViews
import Derived.JoinedTies
import Derived.KernelRfl
namespace Go.Proofs.Ytplgghpnijmllaa
/- THE CELL 'sum', in the pinned program and in every row, IS THE sha256 OF THE DUMP (.gsa) THAT YtplgghpnijmllaaProg.lean LOADS. Nothing in Lean hashes anything: it is a label: what it is worth is what the hold of that sum in a sandbox is worth. -/
noncomputable def Try.pinned : Pinned := { name := "ytplgghpnijmllaa", sum := "0571488e26e4e94ec119b9a8808a7e4539a727ca46f267e09ec34feaa5b61f83", checked := Try.checked }
namespace Rows
def none {H : Type} : Left H := { results := [], args := [] }

/-- 'aviarylaw.Names': WHATEVER THE INPUT: true; the input reads as it did. -/
def namesSpec : ChangeSpec := { name := "names", fn := fun _ => fun
  | [] => { results := [.lit (.bool true)], args := [] }
  | _ => none }
def namesRow : OpenClaim := { program := "ytplgghpnijmllaa", sum := "0571488e26e4e94ec119b9a8808a7e4539a727ca46f267e09ec34feaa5b61f83", func := "aviary/aviarylaw.Names", spec := "names", apart := false }
def NamesSaid : Prop := namesRow.holds Try.pinned (OpenSpec.ofChange namesSpec)

/-- ITS FALSE NEIGHBOUR: 'it returns false'. Refute it at one input. -/
def namesWrong : ChangeSpec := { name := "names", fn := fun _ => fun
  | [] => { results := [.lit (.bool false)], args := [] }
  | _ => none }
def NamesWrongFalsely : Prop := namesRow.holds Try.pinned (OpenSpec.ofChange namesWrong)

/-- 'aviarylaw.RecipeAsks': WHATEVER THE INPUT: true; the input reads as it did. -/
def recipeAsksSpec : ChangeSpec := { name := "recipeAsks", fn := fun _ => fun
  | [d1, d2, d3, d4, d5] => { results := [.lit (.bool true)], args := [d1, d2, d3, d4, d5] }
  | _ => none }
def recipeAsksRow : OpenClaim := { program := "ytplgghpnijmllaa", sum := "0571488e26e4e94ec119b9a8808a7e4539a727ca46f267e09ec34feaa5b61f83", func := "aviary/aviarylaw.RecipeAsks", spec := "recipeAsks", apart := false }
def RecipeAsksSaid : Prop := recipeAsksRow.holds Try.pinned (OpenSpec.ofChange recipeAsksSpec)

/-- ITS FALSE NEIGHBOUR: 'it returns false'. Refute it at one input. -/
def recipeAsksWrong : ChangeSpec := { name := "recipeAsks", fn := fun _ => fun
  | [d1, d2, d3, d4, d5] => { results := [.lit (.bool false)], args := [d1, d2, d3, d4, d5] }
  | _ => none }
def RecipeAsksWrongFalsely : Prop := recipeAsksRow.holds Try.pinned (OpenSpec.ofChange recipeAsksWrong)

/-- 'aviarylaw.WireSums': WHATEVER THE INPUT: true; the input reads as it did. -/
def wireSumsSpec : ChangeSpec := { name := "wireSums", fn := fun _ => fun
  | [d] => { results := [.lit (.bool true)], args := [d] }
  | _ => none }
def wireSumsRow : OpenClaim := { program := "ytplgghpnijmllaa", sum := "0571488e26e4e94ec119b9a8808a7e4539a727ca46f267e09ec34feaa5b61f83", func := "aviary/aviarylaw.WireSums", spec := "wireSums", apart := false }
def WireSumsSaid : Prop := wireSumsRow.holds Try.pinned (OpenSpec.ofChange wireSumsSpec)

/-- ITS FALSE NEIGHBOUR: 'it returns false'. Refute it at one input. -/
def wireSumsWrong : ChangeSpec := { name := "wireSums", fn := fun _ => fun
  | [d] => { results := [.lit (.bool false)], args := [d] }
  | _ => none }
def WireSumsWrongFalsely : Prop := wireSumsRow.holds Try.pinned (OpenSpec.ofChange wireSumsWrong)

/-- 'aviarylaw.ZabCommits': WHATEVER THE INPUT: true; the input reads as it did. -/
def zabCommitsSpec : ChangeSpec := { name := "zabCommits", fn := fun _ => fun
  | [d] => { results := [.lit (.bool true)], args := [d] }
  | _ => none }
def zabCommitsRow : OpenClaim := { program := "ytplgghpnijmllaa", sum := "0571488e26e4e94ec119b9a8808a7e4539a727ca46f267e09ec34feaa5b61f83", func := "aviary/aviarylaw.ZabCommits", spec := "zabCommits", apart := false }
def ZabCommitsSaid : Prop := zabCommitsRow.holds Try.pinned (OpenSpec.ofChange zabCommitsSpec)

/-- ITS FALSE NEIGHBOUR: 'it returns false'. Refute it at one input. -/
def zabCommitsWrong : ChangeSpec := { name := "zabCommits", fn := fun _ => fun
  | [d] => { results := [.lit (.bool false)], args := [d] }
  | _ => none }
def ZabCommitsWrongFalsely : Prop := zabCommitsRow.holds Try.pinned (OpenSpec.ofChange zabCommitsWrong)

/-- 'aviarylaw.ClientSees': WHATEVER THE INPUT: true; the input reads as it did. -/
def clientSeesSpec : ChangeSpec := { name := "clientSees", fn := fun _ => fun
  | [d1, d2, d3] => { results := [.lit (.bool true)], args := [d1, d2, d3] }
  | _ => none }
def clientSeesRow : OpenClaim := { program := "ytplgghpnijmllaa", sum := "0571488e26e4e94ec119b9a8808a7e4539a727ca46f267e09ec34feaa5b61f83", func := "aviary/aviarylaw.ClientSees", spec := "clientSees", apart := false }
def ClientSeesSaid : Prop := clientSeesRow.holds Try.pinned (OpenSpec.ofChange clientSeesSpec)

/-- ITS FALSE NEIGHBOUR: 'it returns false'. Refute it at one input. -/
def clientSeesWrong : ChangeSpec := { name := "clientSees", fn := fun _ => fun
  | [d1, d2, d3] => { results := [.lit (.bool false)], args := [d1, d2, d3] }
  | _ => none }
def ClientSeesWrongFalsely : Prop := clientSeesRow.holds Try.pinned (OpenSpec.ofChange clientSeesWrong)

/-- 'aviarylaw.ZxidMakes': WHATEVER THE INPUT: true; the input reads as it did. -/
def zxidMakesSpec : ChangeSpec := { name := "zxidMakes", fn := fun _ => fun
  | [d1, d2, d3] => { results := [.lit (.bool true)], args := [d1, d2, d3] }
  | _ => none }
def zxidMakesRow : OpenClaim := { program := "ytplgghpnijmllaa", sum := "0571488e26e4e94ec119b9a8808a7e4539a727ca46f267e09ec34feaa5b61f83", func := "aviary/aviarylaw.ZxidMakes", spec := "zxidMakes", apart := false }
def ZxidMakesSaid : Prop := zxidMakesRow.holds Try.pinned (OpenSpec.ofChange zxidMakesSpec)

/-- ITS FALSE NEIGHBOUR: 'it returns false'. Refute it at one input. -/
def zxidMakesWrong : ChangeSpec := { name := "zxidMakes", fn := fun _ => fun
  | [d1, d2, d3] => { results := [.lit (.bool false)], args := [d1, d2, d3] }
  | _ => none }
def ZxidMakesWrongFalsely : Prop := zxidMakesRow.holds Try.pinned (OpenSpec.ofChange zxidMakesWrong)

/-- 'aviarylaw.ZabElects': WHATEVER THE INPUT: true; the input reads as it did. -/
def zabElectsSpec : ChangeSpec := { name := "zabElects", fn := fun _ => fun
  | [d] => { results := [.lit (.bool true)], args := [d] }
  | _ => none }
def zabElectsRow : OpenClaim := { program := "ytplgghpnijmllaa", sum := "0571488e26e4e94ec119b9a8808a7e4539a727ca46f267e09ec34feaa5b61f83", func := "aviary/aviarylaw.ZabElects", spec := "zabElects", apart := false }
def ZabElectsSaid : Prop := zabElectsRow.holds Try.pinned (OpenSpec.ofChange zabElectsSpec)

/-- ITS FALSE NEIGHBOUR: 'it returns false'. Refute it at one input. -/
def zabElectsWrong : ChangeSpec := { name := "zabElects", fn := fun _ => fun
  | [d] => { results := [.lit (.bool false)], args := [d] }
  | _ => none }
def ZabElectsWrongFalsely : Prop := zabElectsRow.holds Try.pinned (OpenSpec.ofChange zabElectsWrong)

/-- 'aviarylaw.ZabNexts': WHATEVER THE INPUT: true; the input reads as it did. -/
def zabNextsSpec : ChangeSpec := { name := "zabNexts", fn := fun _ => fun
  | [d] => { results := [.lit (.bool true)], args := [d] }
  | _ => none }
def zabNextsRow : OpenClaim := { program := "ytplgghpnijmllaa", sum := "0571488e26e4e94ec119b9a8808a7e4539a727ca46f267e09ec34feaa5b61f83", func := "aviary/aviarylaw.ZabNexts", spec := "zabNexts", apart := false }
def ZabNextsSaid : Prop := zabNextsRow.holds Try.pinned (OpenSpec.ofChange zabNextsSpec)

/-- ITS FALSE NEIGHBOUR: 'it returns false'. Refute it at one input. -/
def zabNextsWrong : ChangeSpec := { name := "zabNexts", fn := fun _ => fun
  | [d] => { results := [.lit (.bool false)], args := [d] }
  | _ => none }
def ZabNextsWrongFalsely : Prop := zabNextsRow.holds Try.pinned (OpenSpec.ofChange zabNextsWrong)

/-- 'aviarylaw.WatchFires': WHATEVER THE INPUT: true; the input reads as it did. -/
def watchFiresSpec : ChangeSpec := { name := "watchFires", fn := fun _ => fun
  | [d1, d2] => { results := [.lit (.bool true)], args := [d1, d2] }
  | _ => none }
def watchFiresRow : OpenClaim := { program := "ytplgghpnijmllaa", sum := "0571488e26e4e94ec119b9a8808a7e4539a727ca46f267e09ec34feaa5b61f83", func := "aviary/aviarylaw.WatchFires", spec := "watchFires", unfollowed := true, recurses := true, apart := false }
def WatchFiresSaid : Prop := watchFiresRow.holds Try.pinned (OpenSpec.ofChange watchFiresSpec)

/-- ITS FALSE NEIGHBOUR: 'it returns false'. Refute it at one input. -/
def watchFiresWrong : ChangeSpec := { name := "watchFires", fn := fun _ => fun
  | [d1, d2] => { results := [.lit (.bool false)], args := [d1, d2] }
  | _ => none }
def WatchFiresWrongFalsely : Prop := watchFiresRow.holds Try.pinned (OpenSpec.ofChange watchFiresWrong)

/-- 'aviarylaw.DiskReads': WHATEVER THE INPUT: true; the input reads as it did. -/
def diskReadsSpec : ChangeSpec := { name := "diskReads", fn := fun _ => fun
  | [d1, d2, d3] => { results := [.lit (.bool true)], args := [d1, d2, d3] }
  | _ => none }
def diskReadsRow : OpenClaim := { program := "ytplgghpnijmllaa", sum := "0571488e26e4e94ec119b9a8808a7e4539a727ca46f267e09ec34feaa5b61f83", func := "aviary/aviarylaw.DiskReads", spec := "diskReads", inPlace := ["internal/bytealg.abigen_runtime_cmpstring"], unfollowed := true, recurses := true, apart := false }
def DiskReadsSaid : Prop := diskReadsRow.holds Try.pinned (OpenSpec.ofChange diskReadsSpec)

/-- ITS FALSE NEIGHBOUR: 'it returns false'. Refute it at one input. -/
def diskReadsWrong : ChangeSpec := { name := "diskReads", fn := fun _ => fun
  | [d1, d2, d3] => { results := [.lit (.bool false)], args := [d1, d2, d3] }
  | _ => none }
def DiskReadsWrongFalsely : Prop := diskReadsRow.holds Try.pinned (OpenSpec.ofChange diskReadsWrong)

/-- 'aviarylaw.DiskTurns': WHATEVER THE INPUT: true; the input reads as it did. -/
def diskTurnsSpec : ChangeSpec := { name := "diskTurns", fn := fun _ => fun
  | [d1, d2, d3] => { results := [.lit (.bool true)], args := [d1, d2, d3] }
  | _ => none }
def diskTurnsRow : OpenClaim := { program := "ytplgghpnijmllaa", sum := "0571488e26e4e94ec119b9a8808a7e4539a727ca46f267e09ec34feaa5b61f83", func := "aviary/aviarylaw.DiskTurns", spec := "diskTurns", inPlace := ["internal/bytealg.abigen_runtime_cmpstring"], unfollowed := true, recurses := true, apart := false }
def DiskTurnsSaid : Prop := diskTurnsRow.holds Try.pinned (OpenSpec.ofChange diskTurnsSpec)

/-- ITS FALSE NEIGHBOUR: 'it returns false'. Refute it at one input. -/
def diskTurnsWrong : ChangeSpec := { name := "diskTurns", fn := fun _ => fun
  | [d1, d2, d3] => { results := [.lit (.bool false)], args := [d1, d2, d3] }
  | _ => none }
def DiskTurnsWrongFalsely : Prop := diskTurnsRow.holds Try.pinned (OpenSpec.ofChange diskTurnsWrong)

/-- 'aviarylaw.ZxidReads': WHATEVER THE INPUT: true; the input reads as it did. -/
def zxidReadsSpec : ChangeSpec := { name := "zxidReads", fn := fun _ => fun
  | [d] => { results := [.lit (.bool true)], args := [d] }
  | _ => none }
def zxidReadsRow : OpenClaim := { program := "ytplgghpnijmllaa", sum := "0571488e26e4e94ec119b9a8808a7e4539a727ca46f267e09ec34feaa5b61f83", func := "aviary/aviarylaw.ZxidReads", spec := "zxidReads", inPlace := ["internal/bytealg.IndexByteString", "internal/bytealg.IndexString"], recurses := true, named := ["internal/bytealg.MaxLen"], apart := false }
def ZxidReadsSaid : Prop := zxidReadsRow.holds Try.pinned (OpenSpec.ofChange zxidReadsSpec)

/-- ITS FALSE NEIGHBOUR: 'it returns false'. Refute it at one input. -/
def zxidReadsWrong : ChangeSpec := { name := "zxidReads", fn := fun _ => fun
  | [d] => { results := [.lit (.bool false)], args := [d] }
  | _ => none }
def ZxidReadsWrongFalsely : Prop := zxidReadsRow.holds Try.pinned (OpenSpec.ofChange zxidReadsWrong)

/- THE SECOND FORM. 'bulk': how many values and letters a reading holds, each counted each time it is reached (what is shared counts as often as it is met; a slice's spare places count too). A statement '..UptoSaid' is the law's where the arguments, and the package variables that the reading takes, are together of bulk at most 1048576: NARROWER than '..Said'. Prove '..Said' where nothing that the law and all that it calls make is longer than what came in: it says more and counts as full. Else prove '..UptoSaid'. A law counts once. -/
mutual
def uptoBulk {H : Type} : DataW H → Nat
  | .lit (.string bytes) => bytes.length + 1
  | .lit _ => 1
  | .nil => 1
  | .ptr d => uptoBulk d + 1
  | .slice elems spare => uptoBulkAll elems + uptoBulkAll spare + 1
  | .agg parts => uptoBulkAll parts + 1
  | .iface _ d => uptoBulk d + 1
  | .map entries => uptoBulkEntries entries + 1
  | .held _ => 1
def uptoBulkAll {H : Type} : List (DataW H) → Nat
  | [] => 0
  | d :: r => uptoBulk d + uptoBulkAll r
def uptoBulkEntries {H : Type} : List (Lit × DataW H) → Nat
  | [] => 0
  | x :: r => uptoBulkEntry x + uptoBulkEntries r
def uptoBulkEntry {H : Type} : Lit × DataW H → Nat
  | (.string bytes, d) => bytes.length + uptoBulk d + 1
  | (_, d) => uptoBulk d + 1
 end
def uptoSmall : (H : Type) → List (DataW H) → Bool := fun _ ds => decide (uptoBulkAll ds ≤ 1048576)
def OpenSpec.upto (s : _root_.Go.ChangeSpec) : _root_.Go.OpenSpec := { _root_.Go.OpenSpec.ofChange s with cond := some uptoSmall }

/-- 'aviarylaw.Names', WHERE WHAT IT READS IS OF BULK AT MOST 1048576: true; the input reads as it did. -/
def namesUptoRow : OpenClaim := { program := "ytplgghpnijmllaa", sum := "0571488e26e4e94ec119b9a8808a7e4539a727ca46f267e09ec34feaa5b61f83", func := "aviary/aviarylaw.Names", spec := "names", apart := false, narrowed := true }
def NamesUptoSaid : Prop := namesUptoRow.holds Try.pinned (OpenSpec.upto namesSpec)

/-- 'aviarylaw.RecipeAsks', WHERE WHAT IT READS IS OF BULK AT MOST 1048576: true; the input reads as it did. -/
def recipeAsksUptoRow : OpenClaim := { program := "ytplgghpnijmllaa", sum := "0571488e26e4e94ec119b9a8808a7e4539a727ca46f267e09ec34feaa5b61f83", func := "aviary/aviarylaw.RecipeAsks", spec := "recipeAsks", apart := false, narrowed := true }
def RecipeAsksUptoSaid : Prop := recipeAsksUptoRow.holds Try.pinned (OpenSpec.upto recipeAsksSpec)

/-- 'aviarylaw.WireSums', WHERE WHAT IT READS IS OF BULK AT MOST 1048576: true; the input reads as it did. -/
def wireSumsUptoRow : OpenClaim := { program := "ytplgghpnijmllaa", sum := "0571488e26e4e94ec119b9a8808a7e4539a727ca46f267e09ec34feaa5b61f83", func := "aviary/aviarylaw.WireSums", spec := "wireSums", apart := false, narrowed := true }
def WireSumsUptoSaid : Prop := wireSumsUptoRow.holds Try.pinned (OpenSpec.upto wireSumsSpec)

/-- 'aviarylaw.ZabCommits', WHERE WHAT IT READS IS OF BULK AT MOST 1048576: true; the input reads as it did. -/
def zabCommitsUptoRow : OpenClaim := { program := "ytplgghpnijmllaa", sum := "0571488e26e4e94ec119b9a8808a7e4539a727ca46f267e09ec34feaa5b61f83", func := "aviary/aviarylaw.ZabCommits", spec := "zabCommits", apart := false, narrowed := true }
def ZabCommitsUptoSaid : Prop := zabCommitsUptoRow.holds Try.pinned (OpenSpec.upto zabCommitsSpec)

/-- 'aviarylaw.ClientSees', WHERE WHAT IT READS IS OF BULK AT MOST 1048576: true; the input reads as it did. -/
def clientSeesUptoRow : OpenClaim := { program := "ytplgghpnijmllaa", sum := "0571488e26e4e94ec119b9a8808a7e4539a727ca46f267e09ec34feaa5b61f83", func := "aviary/aviarylaw.ClientSees", spec := "clientSees", apart := false, narrowed := true }
def ClientSeesUptoSaid : Prop := clientSeesUptoRow.holds Try.pinned (OpenSpec.upto clientSeesSpec)

/-- 'aviarylaw.ZxidMakes', WHERE WHAT IT READS IS OF BULK AT MOST 1048576: true; the input reads as it did. -/
def zxidMakesUptoRow : OpenClaim := { program := "ytplgghpnijmllaa", sum := "0571488e26e4e94ec119b9a8808a7e4539a727ca46f267e09ec34feaa5b61f83", func := "aviary/aviarylaw.ZxidMakes", spec := "zxidMakes", apart := false, narrowed := true }
def ZxidMakesUptoSaid : Prop := zxidMakesUptoRow.holds Try.pinned (OpenSpec.upto zxidMakesSpec)

/-- 'aviarylaw.ZabElects', WHERE WHAT IT READS IS OF BULK AT MOST 1048576: true; the input reads as it did. -/
def zabElectsUptoRow : OpenClaim := { program := "ytplgghpnijmllaa", sum := "0571488e26e4e94ec119b9a8808a7e4539a727ca46f267e09ec34feaa5b61f83", func := "aviary/aviarylaw.ZabElects", spec := "zabElects", apart := false, narrowed := true }
def ZabElectsUptoSaid : Prop := zabElectsUptoRow.holds Try.pinned (OpenSpec.upto zabElectsSpec)

/-- 'aviarylaw.ZabNexts', WHERE WHAT IT READS IS OF BULK AT MOST 1048576: true; the input reads as it did. -/
def zabNextsUptoRow : OpenClaim := { program := "ytplgghpnijmllaa", sum := "0571488e26e4e94ec119b9a8808a7e4539a727ca46f267e09ec34feaa5b61f83", func := "aviary/aviarylaw.ZabNexts", spec := "zabNexts", apart := false, narrowed := true }
def ZabNextsUptoSaid : Prop := zabNextsUptoRow.holds Try.pinned (OpenSpec.upto zabNextsSpec)

/-- 'aviarylaw.WatchFires', WHERE WHAT IT READS IS OF BULK AT MOST 1048576: true; the input reads as it did. -/
def watchFiresUptoRow : OpenClaim := { program := "ytplgghpnijmllaa", sum := "0571488e26e4e94ec119b9a8808a7e4539a727ca46f267e09ec34feaa5b61f83", func := "aviary/aviarylaw.WatchFires", spec := "watchFires", unfollowed := true, recurses := true, apart := false, narrowed := true }
def WatchFiresUptoSaid : Prop := watchFiresUptoRow.holds Try.pinned (OpenSpec.upto watchFiresSpec)

/-- 'aviarylaw.DiskReads', WHERE WHAT IT READS IS OF BULK AT MOST 1048576: true; the input reads as it did. -/
def diskReadsUptoRow : OpenClaim := { program := "ytplgghpnijmllaa", sum := "0571488e26e4e94ec119b9a8808a7e4539a727ca46f267e09ec34feaa5b61f83", func := "aviary/aviarylaw.DiskReads", spec := "diskReads", inPlace := ["internal/bytealg.abigen_runtime_cmpstring"], unfollowed := true, recurses := true, apart := false, narrowed := true }
def DiskReadsUptoSaid : Prop := diskReadsUptoRow.holds Try.pinned (OpenSpec.upto diskReadsSpec)

/-- 'aviarylaw.DiskTurns', WHERE WHAT IT READS IS OF BULK AT MOST 1048576: true; the input reads as it did. -/
def diskTurnsUptoRow : OpenClaim := { program := "ytplgghpnijmllaa", sum := "0571488e26e4e94ec119b9a8808a7e4539a727ca46f267e09ec34feaa5b61f83", func := "aviary/aviarylaw.DiskTurns", spec := "diskTurns", inPlace := ["internal/bytealg.abigen_runtime_cmpstring"], unfollowed := true, recurses := true, apart := false, narrowed := true }
def DiskTurnsUptoSaid : Prop := diskTurnsUptoRow.holds Try.pinned (OpenSpec.upto diskTurnsSpec)

/-- 'aviarylaw.ZxidReads', WHERE WHAT IT READS IS OF BULK AT MOST 1048576: true; the input reads as it did. -/
def zxidReadsUptoRow : OpenClaim := { program := "ytplgghpnijmllaa", sum := "0571488e26e4e94ec119b9a8808a7e4539a727ca46f267e09ec34feaa5b61f83", func := "aviary/aviarylaw.ZxidReads", spec := "zxidReads", inPlace := ["internal/bytealg.IndexByteString", "internal/bytealg.IndexString"], recurses := true, named := ["internal/bytealg.MaxLen"], apart := false, narrowed := true }
def ZxidReadsUptoSaid : Prop := zxidReadsUptoRow.holds Try.pinned (OpenSpec.upto zxidReadsSpec)

end Rows
end Go.Proofs.Ytplgghpnijmllaa
