/-
  No cell of these rows narrows 'for every input' (looked for: loops, veiled, ifaces, maps, wideKeys, modest, calm, conditions, laid).
  DERIVED. THE GIVEN ROWS OF THIS SEAT. 2 by the template 'for every input the law returns true; each argument reads behind the call as it read before'; 0 by the template 'total and deterministic' (their statements: YtnmdpphddimfbaaGreatTotals.lean).
  GIVEN WITH THE SEED: the statements are not yours to turn. If you find one false, say at which input.
  Laid BY PROGRAM, IN A SANDBOX (cutbox-rows.mjs): the forced cells as the released guide's own fill.sh prints them over the translation 3e8da89b4759a42c… (all of the seat's roots in one cut). By AI agents, Wed Nov 11 2026. No macro, syntax, notation, axiom, sorry.
-/
import Derived.Test.YtnmdpphddimfbaaGreatChecked
import GoSem.Claim
import GoSem.ClaimJoined
import GoSem.ClaimMapViews
import Derived.JoinedTies
import Derived.KernelRfl
namespace Go.Proofs.YtnmdpphddimfbaaGreat
/- THE CELL 'sum', in the pinned program and in every row, IS THE sha256 OF THE DUMP (.gsa) THAT YtnmdpphddimfbaaGreatProg.lean LOADS. Nothing in Lean hashes anything: it is a label: what it is worth is what the hold of that sum in a sandbox is worth. -/
noncomputable def Tryz.pinned : Pinned := { name := "ytnmdpphddimfbaagreat", sum := "3e8da89b4759a42cf73ebc4d988e60fbe5d55f9b80bf58e312af2aee8566db40", checked := Tryz.checked }
namespace Rows
def none {H : Type} : Left H := { results := [], args := [] }

/-- 'benchlaw2.LineupsCounted': WHATEVER THE INPUT: true; the input reads as it did. -/
def lineupsCountedSpec : ChangeSpec := { name := "lineupsCounted", fn := fun _ => fun
  | [d] => { results := [.lit (.bool true)], args := [d] }
  | _ => none }
def lineupsCountedRow : OpenClaim := { program := "ytnmdpphddimfbaagreat", sum := "3e8da89b4759a42cf73ebc4d988e60fbe5d55f9b80bf58e312af2aee8566db40", func := "benchwarmer/benchlaw2.LineupsCounted", spec := "lineupsCounted", inPlace := ["internal/bytealg.abigen_runtime_cmpstring", "internal/bytealg.IndexByteString"], unfollowed := true, recurses := true, plainKeys := false, apart := false }
def LineupsCountedSaid : Prop := lineupsCountedRow.holds Tryz.pinned (OpenSpec.ofChange lineupsCountedSpec)

/-- ITS FALSE NEIGHBOUR: 'it returns false'. Refute it at one input. -/
def lineupsCountedWrong : ChangeSpec := { name := "lineupsCounted", fn := fun _ => fun
  | [d] => { results := [.lit (.bool false)], args := [d] }
  | _ => none }
def LineupsCountedWrongFalsely : Prop := lineupsCountedRow.holds Tryz.pinned (OpenSpec.ofChange lineupsCountedWrong)

/-- 'benchlaw2.LineupsBest': WHATEVER THE INPUT: true; the input reads as it did. -/
def lineupsBestSpec : ChangeSpec := { name := "lineupsBest", fn := fun _ => fun
  | [d] => { results := [.lit (.bool true)], args := [d] }
  | _ => none }
def lineupsBestRow : OpenClaim := { program := "ytnmdpphddimfbaagreat", sum := "3e8da89b4759a42cf73ebc4d988e60fbe5d55f9b80bf58e312af2aee8566db40", func := "benchwarmer/benchlaw2.LineupsBest", spec := "lineupsBest", inPlace := ["internal/bytealg.abigen_runtime_cmpstring", "internal/bytealg.IndexByteString"], unfollowed := true, recurses := true, plainKeys := false, apart := false }
def LineupsBestSaid : Prop := lineupsBestRow.holds Tryz.pinned (OpenSpec.ofChange lineupsBestSpec)

/-- ITS FALSE NEIGHBOUR: 'it returns false'. Refute it at one input. -/
def lineupsBestWrong : ChangeSpec := { name := "lineupsBest", fn := fun _ => fun
  | [d] => { results := [.lit (.bool false)], args := [d] }
  | _ => none }
def LineupsBestWrongFalsely : Prop := lineupsBestRow.holds Tryz.pinned (OpenSpec.ofChange lineupsBestWrong)

/- THE SECOND FORM. 'bulk': how many values and letters a reading holds, each counted each time it is reached (what is shared counts as often as it is met; a slice's spare places count too). A statement '..UptoSaid' is the law's where the arguments, and the package variables that the reading takes, are together of bulk at most 1048576: NARROWER than '..Said'. Prove '..Said' where nothing that the law and all that it calls make is longer than what came in: it says more and counts as full. Else prove '..UptoSaid'. A law counts once. -/
mutual
def uptoBulk {H : Type} : DataW H → Nat
  | .lit (.string bytes) => bytes.length + 1
  | .lit _ => 1
  | .nil => 1
  | .ptr d => uptoBulk d + 1
  | .slice elems spare => uptoBulkAll elems + uptoBulkAll spare + 1
  | .agg parts => uptoBulkAll parts + 1
  | .iface _ d => uptoBulk d + 1
  | .map entries => uptoBulkEntries entries + 1
  | .held _ => 1
def uptoBulkAll {H : Type} : List (DataW H) → Nat
  | [] => 0
  | d :: r => uptoBulk d + uptoBulkAll r
def uptoBulkEntries {H : Type} : List (Lit × DataW H) → Nat
  | [] => 0
  | x :: r => uptoBulkEntry x + uptoBulkEntries r
def uptoBulkEntry {H : Type} : Lit × DataW H → Nat
  | (.string bytes, d) => bytes.length + uptoBulk d + 1
  | (_, d) => uptoBulk d + 1
 end
def uptoSmall : (H : Type) → List (DataW H) → Bool := fun _ ds => decide (uptoBulkAll ds ≤ 1048576)
def OpenSpec.upto (s : _root_.Go.ChangeSpec) : _root_.Go.OpenSpec := { _root_.Go.OpenSpec.ofChange s with cond := some uptoSmall }

/-- 'benchlaw2.LineupsCounted', WHERE WHAT IT READS IS OF BULK AT MOST 1048576: true; the input reads as it did. -/
def lineupsCountedUptoRow : OpenClaim := { program := "ytnmdpphddimfbaagreat", sum := "3e8da89b4759a42cf73ebc4d988e60fbe5d55f9b80bf58e312af2aee8566db40", func := "benchwarmer/benchlaw2.LineupsCounted", spec := "lineupsCounted", inPlace := ["internal/bytealg.abigen_runtime_cmpstring", "internal/bytealg.IndexByteString"], unfollowed := true, recurses := true, plainKeys := false, apart := false, narrowed := true }
def LineupsCountedUptoSaid : Prop := lineupsCountedUptoRow.holds Tryz.pinned (OpenSpec.upto lineupsCountedSpec)

/-- 'benchlaw2.LineupsBest', WHERE WHAT IT READS IS OF BULK AT MOST 1048576: true; the input reads as it did. -/
def lineupsBestUptoRow : OpenClaim := { program := "ytnmdpphddimfbaagreat", sum := "3e8da89b4759a42cf73ebc4d988e60fbe5d55f9b80bf58e312af2aee8566db40", func := "benchwarmer/benchlaw2.LineupsBest", spec := "lineupsBest", inPlace := ["internal/bytealg.abigen_runtime_cmpstring", "internal/bytealg.IndexByteString"], unfollowed := true, recurses := true, plainKeys := false, apart := false, narrowed := true }
def LineupsBestUptoSaid : Prop := lineupsBestUptoRow.holds Tryz.pinned (OpenSpec.upto lineupsBestSpec)

end Rows
end Go.Proofs.YtnmdpphddimfbaaGreat
