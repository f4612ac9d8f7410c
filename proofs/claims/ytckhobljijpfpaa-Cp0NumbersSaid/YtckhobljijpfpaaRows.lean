/-
  No cell of these rows narrows 'for every input' (looked for: loops, veiled, ifaces, maps, wideKeys, modest, calm, conditions, laid).
  DERIVED. THE GIVEN ROWS OF THIS SEAT. 3 by the template 'for every input the law returns true; each argument reads behind the call as it read before'; 0 by the template 'total and deterministic' (their statements: YtckhobljijpfpaaTotals.lean).
  GIVEN WITH THE SEED: the statements are not yours to turn. If you find one false, say at which input.
  Laid BY PROGRAM, IN A SANDBOX (cutbox-rows.mjs): the forced cells as the released guide's own fill.sh prints them over the translation eab0de140855c113… (all of the seat's roots in one cut). By AI agents, Wed Nov 11 2026. No macro, syntax, notation, axiom, sorry.
-/
import Derived.Test.YtckhobljijpfpaaChecked
import GoSem.Claim
import GoSem.ClaimJoined
import GoSem.ClaimMapViews
import Derived.JoinedTies
import Derived.KernelRfl
namespace Go.Proofs.Ytckhobljijpfpaa
/- THE CELL 'sum', in the pinned program and in every row, IS THE sha256 OF THE DUMP (.gsa) THAT YtckhobljijpfpaaProg.lean LOADS. Nothing in Lean hashes anything: it is a label: what it is worth is what the hold of that sum in a sandbox is worth. -/
noncomputable def Try.pinned : Pinned := { name := "ytckhobljijpfpaa", sum := "eab0de140855c113a4f4d3f5d7c7f52b23bc5f60822c02f928496b41bfa90cd7", checked := Try.checked }
namespace Rows
def none {H : Type} : Left H := { results := [], args := [] }

/-- 'pianolalaw6.Cp0Counts': WHATEVER THE INPUT: true; the input reads as it did. -/
def cp0CountsSpec : ChangeSpec := { name := "cp0Counts", fn := fun _ => fun
  | [d1, d2, d3] => { results := [.lit (.bool true)], args := [d1, d2, d3] }
  | _ => none }
def cp0CountsRow : OpenClaim := { program := "ytckhobljijpfpaa", sum := "eab0de140855c113a4f4d3f5d7c7f52b23bc5f60822c02f928496b41bfa90cd7", func := "pianola/pianolalaw6.Cp0Counts", spec := "cp0Counts", apart := false }
def Cp0CountsSaid : Prop := cp0CountsRow.holds Try.pinned (OpenSpec.ofChange cp0CountsSpec)

/-- ITS FALSE NEIGHBOUR: 'it returns false'. Refute it at one input. -/
def cp0CountsWrong : ChangeSpec := { name := "cp0Counts", fn := fun _ => fun
  | [d1, d2, d3] => { results := [.lit (.bool false)], args := [d1, d2, d3] }
  | _ => none }
def Cp0CountsWrongFalsely : Prop := cp0CountsRow.holds Try.pinned (OpenSpec.ofChange cp0CountsWrong)

/-- 'pianolalaw6.Cp0Returns': WHATEVER THE INPUT: true; the input reads as it did. -/
def cp0ReturnsSpec : ChangeSpec := { name := "cp0Returns", fn := fun _ => fun
  | [d1, d2, d3] => { results := [.lit (.bool true)], args := [d1, d2, d3] }
  | _ => none }
def cp0ReturnsRow : OpenClaim := { program := "ytckhobljijpfpaa", sum := "eab0de140855c113a4f4d3f5d7c7f52b23bc5f60822c02f928496b41bfa90cd7", func := "pianola/pianolalaw6.Cp0Returns", spec := "cp0Returns", apart := false }
def Cp0ReturnsSaid : Prop := cp0ReturnsRow.holds Try.pinned (OpenSpec.ofChange cp0ReturnsSpec)

/-- ITS FALSE NEIGHBOUR: 'it returns false'. Refute it at one input. -/
def cp0ReturnsWrong : ChangeSpec := { name := "cp0Returns", fn := fun _ => fun
  | [d1, d2, d3] => { results := [.lit (.bool false)], args := [d1, d2, d3] }
  | _ => none }
def Cp0ReturnsWrongFalsely : Prop := cp0ReturnsRow.holds Try.pinned (OpenSpec.ofChange cp0ReturnsWrong)

/-- 'pianolalaw6.Cp0Numbers': WHATEVER THE INPUT: true; the input reads as it did. -/
def cp0NumbersSpec : ChangeSpec := { name := "cp0Numbers", fn := fun _ => fun
  | [] => { results := [.lit (.bool true)], args := [] }
  | _ => none }
def cp0NumbersRow : OpenClaim := { program := "ytckhobljijpfpaa", sum := "eab0de140855c113a4f4d3f5d7c7f52b23bc5f60822c02f928496b41bfa90cd7", func := "pianola/pianolalaw6.Cp0Numbers", spec := "cp0Numbers", apart := false }
def Cp0NumbersSaid : Prop := cp0NumbersRow.holds Try.pinned (OpenSpec.ofChange cp0NumbersSpec)

/-- ITS FALSE NEIGHBOUR: 'it returns false'. Refute it at one input. -/
def cp0NumbersWrong : ChangeSpec := { name := "cp0Numbers", fn := fun _ => fun
  | [] => { results := [.lit (.bool false)], args := [] }
  | _ => none }
def Cp0NumbersWrongFalsely : Prop := cp0NumbersRow.holds Try.pinned (OpenSpec.ofChange cp0NumbersWrong)

/- THE SECOND FORM. 'bulk': how many values and letters a reading holds, each counted each time it is reached (what is shared counts as often as it is met; a slice's spare places count too). A statement '..UptoSaid' is the law's where the arguments, and the package variables that the reading takes, are together of bulk at most 1048576: NARROWER than '..Said'. Prove '..Said' where nothing that the law and all that it calls make is longer than what came in: it says more and counts as full. Else prove '..UptoSaid'. A law counts once. -/
mutual
def uptoBulk {H : Type} : DataW H → Nat
  | .lit (.string bytes) => bytes.length + 1
  | .lit _ => 1
  | .nil => 1
  | .ptr d => uptoBulk d + 1
  | .slice elems spare => uptoBulkAll elems + uptoBulkAll spare + 1
  | .agg parts => uptoBulkAll parts + 1
  | .iface _ d => uptoBulk d + 1
  | .map entries => uptoBulkEntries entries + 1
  | .held _ => 1
def uptoBulkAll {H : Type} : List (DataW H) → Nat
  | [] => 0
  | d :: r => uptoBulk d + uptoBulkAll r
def uptoBulkEntries {H : Type} : List (Lit × DataW H) → Nat
  | [] => 0
  | x :: r => uptoBulkEntry x + uptoBulkEntries r
def uptoBulkEntry {H : Type} : Lit × DataW H → Nat
  | (.string bytes, d) => bytes.length + uptoBulk d + 1
  | (_, d) => uptoBulk d + 1
 end
def uptoSmall : (H : Type) → List (DataW H) → Bool := fun _ ds => decide (uptoBulkAll ds ≤ 1048576)
def OpenSpec.upto (s : _root_.Go.ChangeSpec) : _root_.Go.OpenSpec := { _root_.Go.OpenSpec.ofChange s with cond := some uptoSmall }

/-- 'pianolalaw6.Cp0Counts', WHERE WHAT IT READS IS OF BULK AT MOST 1048576: true; the input reads as it did. -/
def cp0CountsUptoRow : OpenClaim := { program := "ytckhobljijpfpaa", sum := "eab0de140855c113a4f4d3f5d7c7f52b23bc5f60822c02f928496b41bfa90cd7", func := "pianola/pianolalaw6.Cp0Counts", spec := "cp0Counts", apart := false, narrowed := true }
def Cp0CountsUptoSaid : Prop := cp0CountsUptoRow.holds Try.pinned (OpenSpec.upto cp0CountsSpec)

/-- 'pianolalaw6.Cp0Returns', WHERE WHAT IT READS IS OF BULK AT MOST 1048576: true; the input reads as it did. -/
def cp0ReturnsUptoRow : OpenClaim := { program := "ytckhobljijpfpaa", sum := "eab0de140855c113a4f4d3f5d7c7f52b23bc5f60822c02f928496b41bfa90cd7", func := "pianola/pianolalaw6.Cp0Returns", spec := "cp0Returns", apart := false, narrowed := true }
def Cp0ReturnsUptoSaid : Prop := cp0ReturnsUptoRow.holds Try.pinned (OpenSpec.upto cp0ReturnsSpec)

/-- 'pianolalaw6.Cp0Numbers', WHERE WHAT IT READS IS OF BULK AT MOST 1048576: true; the input reads as it did. -/
def cp0NumbersUptoRow : OpenClaim := { program := "ytckhobljijpfpaa", sum := "eab0de140855c113a4f4d3f5d7c7f52b23bc5f60822c02f928496b41bfa90cd7", func := "pianola/pianolalaw6.Cp0Numbers", spec := "cp0Numbers", apart := false, narrowed := true }
def Cp0NumbersUptoSaid : Prop := cp0NumbersUptoRow.holds Try.pinned (OpenSpec.upto cp0NumbersSpec)

end Rows
end Go.Proofs.Ytckhobljijpfpaa
