/-
  No cell of these rows narrows 'for every input' (looked for: loops, veiled, ifaces, maps, wideKeys, modest, calm, conditions, laid).
  DERIVED. THE GIVEN ROWS OF THIS SEAT. 4 by the template 'for every input the law returns true; each argument reads behind the call as it read before'; 0 by the template 'total and deterministic' (their statements: YtchpcjdhflbikaaTotals.lean).
  GIVEN WITH THE SEED: the statements are not yours to turn. If you find one false, say at which input.
  Laid BY PROGRAM, IN A SANDBOX (cutbox-rows.mjs): the forced cells as the released guide's own fill.sh prints them over the translation 709451a06a765616… (all of the seat's roots in one cut). By AI agents, Wed Nov 11 2026. No macro, syntax, notation, axiom, sorry.
-/
import Derived.Test.YtchpcjdhflbikaaChecked
import GoSem.Claim
import GoSem.ClaimJoined
import GoSem.ClaimMapViews
import Derived.JoinedTies
import Derived.KernelRfl
namespace Go.Proofs.Ytchpcjdhflbikaa
/- THE CELL 'sum', in the pinned program and in every row, IS THE sha256 OF THE DUMP (.gsa) THAT YtchpcjdhflbikaaProg.lean LOADS. Nothing in Lean hashes anything: it is a label: what it is worth is what the hold of that sum in a sandbox is worth. -/
noncomputable def Try.pinned : Pinned := { name := "ytchpcjdhflbikaa", sum := "709451a06a76561611830f5459ce51bac51d9e84979d3ee67e8fde246f1843e7", checked := Try.checked }
namespace Rows
def none {H : Type} : Left H := { results := [], args := [] }

/-- 'pianolalaw5.BranchNumbers': WHATEVER THE INPUT: true; the input reads as it did. -/
def branchNumbersSpec : ChangeSpec := { name := "branchNumbers", fn := fun _ => fun
  | [] => { results := [.lit (.bool true)], args := [] }
  | _ => none }
def branchNumbersRow : OpenClaim := { program := "ytchpcjdhflbikaa", sum := "709451a06a76561611830f5459ce51bac51d9e84979d3ee67e8fde246f1843e7", func := "pianola/pianolalaw5.BranchNumbers", spec := "branchNumbers", apart := false }
def BranchNumbersSaid : Prop := branchNumbersRow.holds Try.pinned (OpenSpec.ofChange branchNumbersSpec)

/-- ITS FALSE NEIGHBOUR: 'it returns false'. Refute it at one input. -/
def branchNumbersWrong : ChangeSpec := { name := "branchNumbers", fn := fun _ => fun
  | [] => { results := [.lit (.bool false)], args := [] }
  | _ => none }
def BranchNumbersWrongFalsely : Prop := branchNumbersRow.holds Try.pinned (OpenSpec.ofChange branchNumbersWrong)

/-- 'pianolalaw5.BranchTells': WHATEVER THE INPUT: true; the input reads as it did. -/
def branchTellsSpec : ChangeSpec := { name := "branchTells", fn := fun _ => fun
  | [d1, d2, d3, d4] => { results := [.lit (.bool true)], args := [d1, d2, d3, d4] }
  | _ => none }
def branchTellsRow : OpenClaim := { program := "ytchpcjdhflbikaa", sum := "709451a06a76561611830f5459ce51bac51d9e84979d3ee67e8fde246f1843e7", func := "pianola/pianolalaw5.BranchTells", spec := "branchTells", apart := false }
def BranchTellsSaid : Prop := branchTellsRow.holds Try.pinned (OpenSpec.ofChange branchTellsSpec)

/-- ITS FALSE NEIGHBOUR: 'it returns false'. Refute it at one input. -/
def branchTellsWrong : ChangeSpec := { name := "branchTells", fn := fun _ => fun
  | [d1, d2, d3, d4] => { results := [.lit (.bool false)], args := [d1, d2, d3, d4] }
  | _ => none }
def BranchTellsWrongFalsely : Prop := branchTellsRow.holds Try.pinned (OpenSpec.ofChange branchTellsWrong)

/-- 'pianolalaw5.BranchTwos': WHATEVER THE INPUT: true; the input reads as it did. -/
def branchTwosSpec : ChangeSpec := { name := "branchTwos", fn := fun _ => fun
  | [d1, d2, d3, d4] => { results := [.lit (.bool true)], args := [d1, d2, d3, d4] }
  | _ => none }
def branchTwosRow : OpenClaim := { program := "ytchpcjdhflbikaa", sum := "709451a06a76561611830f5459ce51bac51d9e84979d3ee67e8fde246f1843e7", func := "pianola/pianolalaw5.BranchTwos", spec := "branchTwos", apart := false }
def BranchTwosSaid : Prop := branchTwosRow.holds Try.pinned (OpenSpec.ofChange branchTwosSpec)

/-- ITS FALSE NEIGHBOUR: 'it returns false'. Refute it at one input. -/
def branchTwosWrong : ChangeSpec := { name := "branchTwos", fn := fun _ => fun
  | [d1, d2, d3, d4] => { results := [.lit (.bool false)], args := [d1, d2, d3, d4] }
  | _ => none }
def BranchTwosWrongFalsely : Prop := branchTwosRow.holds Try.pinned (OpenSpec.ofChange branchTwosWrong)

/-- 'pianolalaw5.BranchBack': WHATEVER THE INPUT: true; the input reads as it did. -/
def branchBackSpec : ChangeSpec := { name := "branchBack", fn := fun _ => fun
  | [d1, d2, d3] => { results := [.lit (.bool true)], args := [d1, d2, d3] }
  | _ => none }
def branchBackRow : OpenClaim := { program := "ytchpcjdhflbikaa", sum := "709451a06a76561611830f5459ce51bac51d9e84979d3ee67e8fde246f1843e7", func := "pianola/pianolalaw5.BranchBack", spec := "branchBack", apart := false }
def BranchBackSaid : Prop := branchBackRow.holds Try.pinned (OpenSpec.ofChange branchBackSpec)

/-- ITS FALSE NEIGHBOUR: 'it returns false'. Refute it at one input. -/
def branchBackWrong : ChangeSpec := { name := "branchBack", fn := fun _ => fun
  | [d1, d2, d3] => { results := [.lit (.bool false)], args := [d1, d2, d3] }
  | _ => none }
def BranchBackWrongFalsely : Prop := branchBackRow.holds Try.pinned (OpenSpec.ofChange branchBackWrong)

/- THE SECOND FORM. 'bulk': how many values and letters a reading holds, each counted each time it is reached (what is shared counts as often as it is met; a slice's spare places count too). A statement '..UptoSaid' is the law's where the arguments, and the package variables that the reading takes, are together of bulk at most 1048576: NARROWER than '..Said'. Prove '..Said' where nothing that the law and all that it calls make is longer than what came in: it says more and counts as full. Else prove '..UptoSaid'. A law counts once. -/
mutual
def uptoBulk {H : Type} : DataW H → Nat
  | .lit (.string bytes) => bytes.length + 1
  | .lit _ => 1
  | .nil => 1
  | .ptr d => uptoBulk d + 1
  | .slice elems spare => uptoBulkAll elems + uptoBulkAll spare + 1
  | .agg parts => uptoBulkAll parts + 1
  | .iface _ d => uptoBulk d + 1
  | .map entries => uptoBulkEntries entries + 1
  | .held _ => 1
def uptoBulkAll {H : Type} : List (DataW H) → Nat
  | [] => 0
  | d :: r => uptoBulk d + uptoBulkAll r
def uptoBulkEntries {H : Type} : List (Lit × DataW H) → Nat
  | [] => 0
  | x :: r => uptoBulkEntry x + uptoBulkEntries r
def uptoBulkEntry {H : Type} : Lit × DataW H → Nat
  | (.string bytes, d) => bytes.length + uptoBulk d + 1
  | (_, d) => uptoBulk d + 1
 end
def uptoSmall : (H : Type) → List (DataW H) → Bool := fun _ ds => decide (uptoBulkAll ds ≤ 1048576)
def OpenSpec.upto (s : _root_.Go.ChangeSpec) : _root_.Go.OpenSpec := { _root_.Go.OpenSpec.ofChange s with cond := some uptoSmall }

/-- 'pianolalaw5.BranchNumbers', WHERE WHAT IT READS IS OF BULK AT MOST 1048576: true; the input reads as it did. -/
def branchNumbersUptoRow : OpenClaim := { program := "ytchpcjdhflbikaa", sum := "709451a06a76561611830f5459ce51bac51d9e84979d3ee67e8fde246f1843e7", func := "pianola/pianolalaw5.BranchNumbers", spec := "branchNumbers", apart := false, narrowed := true }
def BranchNumbersUptoSaid : Prop := branchNumbersUptoRow.holds Try.pinned (OpenSpec.upto branchNumbersSpec)

/-- 'pianolalaw5.BranchTells', WHERE WHAT IT READS IS OF BULK AT MOST 1048576: true; the input reads as it did. -/
def branchTellsUptoRow : OpenClaim := { program := "ytchpcjdhflbikaa", sum := "709451a06a76561611830f5459ce51bac51d9e84979d3ee67e8fde246f1843e7", func := "pianola/pianolalaw5.BranchTells", spec := "branchTells", apart := false, narrowed := true }
def BranchTellsUptoSaid : Prop := branchTellsUptoRow.holds Try.pinned (OpenSpec.upto branchTellsSpec)

/-- 'pianolalaw5.BranchTwos', WHERE WHAT IT READS IS OF BULK AT MOST 1048576: true; the input reads as it did. -/
def branchTwosUptoRow : OpenClaim := { program := "ytchpcjdhflbikaa", sum := "709451a06a76561611830f5459ce51bac51d9e84979d3ee67e8fde246f1843e7", func := "pianola/pianolalaw5.BranchTwos", spec := "branchTwos", apart := false, narrowed := true }
def BranchTwosUptoSaid : Prop := branchTwosUptoRow.holds Try.pinned (OpenSpec.upto branchTwosSpec)

/-- 'pianolalaw5.BranchBack', WHERE WHAT IT READS IS OF BULK AT MOST 1048576: true; the input reads as it did. -/
def branchBackUptoRow : OpenClaim := { program := "ytchpcjdhflbikaa", sum := "709451a06a76561611830f5459ce51bac51d9e84979d3ee67e8fde246f1843e7", func := "pianola/pianolalaw5.BranchBack", spec := "branchBack", apart := false, narrowed := true }
def BranchBackUptoSaid : Prop := branchBackUptoRow.holds Try.pinned (OpenSpec.upto branchBackSpec)

end Rows
end Go.Proofs.Ytchpcjdhflbikaa
