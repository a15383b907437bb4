/-
  No cell of these rows narrows 'for every input' (looked for: loops, veiled, ifaces, maps, wideKeys, modest, calm, conditions, laid).
  DERIVED. THE GIVEN ROWS OF THIS SEAT. 3 by the template 'for every input the law returns true; each argument reads behind the call as it read before'; 0 by the template 'total and deterministic' (their statements: YtfllfllfeiaoeaaTotals.lean).
  GIVEN WITH THE SEED: the statements are not yours to turn. If you find one false, say at which input.
  Laid BY PROGRAM, IN A SANDBOX (cutbox-rows.mjs): the forced cells as the released guide's own fill.sh prints them over the translation c4b443d8cf3998e6… (all of the seat's roots in one cut). By AI agents, Wed Nov 11 2026. No macro, syntax, notation, axiom, sorry.
-/
import Derived.Test.YtfllfllfeiaoeaaChecked
import GoSem.Claim
import GoSem.ClaimJoined
import GoSem.ClaimMapViews
import Derived.JoinedTies
import Derived.KernelRfl
namespace Go.Proofs.Ytfllfllfeiaoeaa
/- THE CELL 'sum', in the pinned program and in every row, IS THE sha256 OF THE DUMP (.gsa) THAT YtfllfllfeiaoeaaProg.lean LOADS. Nothing in Lean hashes anything: it is a label: what it is worth is what the hold of that sum in a sandbox is worth. -/
noncomputable def Try.pinned : Pinned := { name := "ytfllfllfeiaoeaa", sum := "c4b443d8cf3998e635daba81ba2143d9ac1851b15a39acdc5c5c112f8f80d977", checked := Try.checked }
namespace Rows
def none {H : Type} : Left H := { results := [], args := [] }

/-- 'lazarettolaw15.CoreFull': WHATEVER THE INPUT: true; the input reads as it did. -/
def coreFullSpec : ChangeSpec := { name := "coreFull", fn := fun _ => fun
  | [d1, d2] => { results := [.lit (.bool true)], args := [d1, d2] }
  | _ => none }
def coreFullRow : OpenClaim := { program := "ytfllfllfeiaoeaa", sum := "c4b443d8cf3998e635daba81ba2143d9ac1851b15a39acdc5c5c112f8f80d977", func := "lazaretto/lazarettolaw15.CoreFull", spec := "coreFull", unfollowed := true, recurses := true, apart := false }
def CoreFullSaid : Prop := coreFullRow.holds Try.pinned (OpenSpec.ofChange coreFullSpec)

/-- ITS FALSE NEIGHBOUR: 'it returns false'. Refute it at one input. -/
def coreFullWrong : ChangeSpec := { name := "coreFull", fn := fun _ => fun
  | [d1, d2] => { results := [.lit (.bool false)], args := [d1, d2] }
  | _ => none }
def CoreFullWrongFalsely : Prop := coreFullRow.holds Try.pinned (OpenSpec.ofChange coreFullWrong)

/-- 'lazarettolaw15.CoreCuts': WHATEVER THE INPUT: true; the input reads as it did. -/
def coreCutsSpec : ChangeSpec := { name := "coreCuts", fn := fun _ => fun
  | [d1, d2, d3] => { results := [.lit (.bool true)], args := [d1, d2, d3] }
  | _ => none }
def coreCutsRow : OpenClaim := { program := "ytfllfllfeiaoeaa", sum := "c4b443d8cf3998e635daba81ba2143d9ac1851b15a39acdc5c5c112f8f80d977", func := "lazaretto/lazarettolaw15.CoreCuts", spec := "coreCuts", unfollowed := true, recurses := true, apart := false }
def CoreCutsSaid : Prop := coreCutsRow.holds Try.pinned (OpenSpec.ofChange coreCutsSpec)

/-- ITS FALSE NEIGHBOUR: 'it returns false'. Refute it at one input. -/
def coreCutsWrong : ChangeSpec := { name := "coreCuts", fn := fun _ => fun
  | [d1, d2, d3] => { results := [.lit (.bool false)], args := [d1, d2, d3] }
  | _ => none }
def CoreCutsWrongFalsely : Prop := coreCutsRow.holds Try.pinned (OpenSpec.ofChange coreCutsWrong)

/-- 'lazarettolaw15.CoreKeeps': WHATEVER THE INPUT: true; the input reads as it did. -/
def coreKeepsSpec : ChangeSpec := { name := "coreKeeps", fn := fun _ => fun
  | [d1, d2, d3, d4] => { results := [.lit (.bool true)], args := [d1, d2, d3, d4] }
  | _ => none }
def coreKeepsRow : OpenClaim := { program := "ytfllfllfeiaoeaa", sum := "c4b443d8cf3998e635daba81ba2143d9ac1851b15a39acdc5c5c112f8f80d977", func := "lazaretto/lazarettolaw15.CoreKeeps", spec := "coreKeeps", unfollowed := true, recurses := true, apart := false }
def CoreKeepsSaid : Prop := coreKeepsRow.holds Try.pinned (OpenSpec.ofChange coreKeepsSpec)

/-- ITS FALSE NEIGHBOUR: 'it returns false'. Refute it at one input. -/
def coreKeepsWrong : ChangeSpec := { name := "coreKeeps", fn := fun _ => fun
  | [d1, d2, d3, d4] => { results := [.lit (.bool false)], args := [d1, d2, d3, d4] }
  | _ => none }
def CoreKeepsWrongFalsely : Prop := coreKeepsRow.holds Try.pinned (OpenSpec.ofChange coreKeepsWrong)

/- THE SECOND FORM. 'bulk': how many values and letters a reading holds, each counted each time it is reached (what is shared counts as often as it is met; a slice's spare places count too). A statement '..UptoSaid' is the law's where the arguments, and the package variables that the reading takes, are together of bulk at most 1048576: NARROWER than '..Said'. Prove '..Said' where nothing that the law and all that it calls make is longer than what came in: it says more and counts as full. Else prove '..UptoSaid'. A law counts once. -/
mutual
def uptoBulk {H : Type} : DataW H → Nat
  | .lit (.string bytes) => bytes.length + 1
  | .lit _ => 1
  | .nil => 1
  | .ptr d => uptoBulk d + 1
  | .slice elems spare => uptoBulkAll elems + uptoBulkAll spare + 1
  | .agg parts => uptoBulkAll parts + 1
  | .iface _ d => uptoBulk d + 1
  | .map entries => uptoBulkEntries entries + 1
  | .held _ => 1
def uptoBulkAll {H : Type} : List (DataW H) → Nat
  | [] => 0
  | d :: r => uptoBulk d + uptoBulkAll r
def uptoBulkEntries {H : Type} : List (Lit × DataW H) → Nat
  | [] => 0
  | x :: r => uptoBulkEntry x + uptoBulkEntries r
def uptoBulkEntry {H : Type} : Lit × DataW H → Nat
  | (.string bytes, d) => bytes.length + uptoBulk d + 1
  | (_, d) => uptoBulk d + 1
 end
def uptoSmall : (H : Type) → List (DataW H) → Bool := fun _ ds => decide (uptoBulkAll ds ≤ 1048576)
def OpenSpec.upto (s : _root_.Go.ChangeSpec) : _root_.Go.OpenSpec := { _root_.Go.OpenSpec.ofChange s with cond := some uptoSmall }

/-- 'lazarettolaw15.CoreFull', WHERE WHAT IT READS IS OF BULK AT MOST 1048576: true; the input reads as it did. -/
def coreFullUptoRow : OpenClaim := { program := "ytfllfllfeiaoeaa", sum := "c4b443d8cf3998e635daba81ba2143d9ac1851b15a39acdc5c5c112f8f80d977", func := "lazaretto/lazarettolaw15.CoreFull", spec := "coreFull", unfollowed := true, recurses := true, apart := false, narrowed := true }
def CoreFullUptoSaid : Prop := coreFullUptoRow.holds Try.pinned (OpenSpec.upto coreFullSpec)

/-- 'lazarettolaw15.CoreCuts', WHERE WHAT IT READS IS OF BULK AT MOST 1048576: true; the input reads as it did. -/
def coreCutsUptoRow : OpenClaim := { program := "ytfllfllfeiaoeaa", sum := "c4b443d8cf3998e635daba81ba2143d9ac1851b15a39acdc5c5c112f8f80d977", func := "lazaretto/lazarettolaw15.CoreCuts", spec := "coreCuts", unfollowed := true, recurses := true, apart := false, narrowed := true }
def CoreCutsUptoSaid : Prop := coreCutsUptoRow.holds Try.pinned (OpenSpec.upto coreCutsSpec)

/-- 'lazarettolaw15.CoreKeeps', WHERE WHAT IT READS IS OF BULK AT MOST 1048576: true; the input reads as it did. -/
def coreKeepsUptoRow : OpenClaim := { program := "ytfllfllfeiaoeaa", sum := "c4b443d8cf3998e635daba81ba2143d9ac1851b15a39acdc5c5c112f8f80d977", func := "lazaretto/lazarettolaw15.CoreKeeps", spec := "coreKeeps", unfollowed := true, recurses := true, apart := false, narrowed := true }
def CoreKeepsUptoSaid : Prop := coreKeepsUptoRow.holds Try.pinned (OpenSpec.upto coreKeepsSpec)

end Rows
end Go.Proofs.Ytfllfllfeiaoeaa
