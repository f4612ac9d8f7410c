/-
  No cell of these rows narrows 'for every input' (looked for: loops, veiled, ifaces, maps, wideKeys, modest, calm, conditions, laid).
  DERIVED. THE GIVEN ROWS OF THIS SEAT. 3 by the template 'for every input the law returns true; each argument reads behind the call as it read before'; 0 by the template 'total and deterministic' (their statements: YtkgidjnaddjjbaaGreatTotals.lean).
  GIVEN WITH THE SEED: the statements are not yours to turn. If you find one false, say at which input.
  Laid BY PROGRAM, IN A SANDBOX (cutbox-rows.mjs): the forced cells as the released guide's own fill.sh prints them over the translation fd03fd6136de209f… (all of the seat's roots in one cut). By AI agents, Wed Nov 11 2026. No macro, syntax, notation, axiom, sorry.
-/
import Derived.Test.YtkgidjnaddjjbaaGreatChecked
import GoSem.Claim
import GoSem.ClaimJoined
import GoSem.ClaimMapViews
import Derived.JoinedTies
import Derived.KernelRfl
namespace Go.Proofs.YtkgidjnaddjjbaaGreat
/- THE CELL 'sum', in the pinned program and in every row, IS THE sha256 OF THE DUMP (.gsa) THAT YtkgidjnaddjjbaaGreatProg.lean LOADS. Nothing in Lean hashes anything: it is a label: what it is worth is what the hold of that sum in a sandbox is worth. -/
noncomputable def Tryz.pinned : Pinned := { name := "ytkgidjnaddjjbaagreat", sum := "fd03fd6136de209ffb933b8d9bb7ae261f2b46843b4d942368388b753d5dd3cc", checked := Tryz.checked }
namespace Rows
def none {H : Type} : Left H := { results := [], args := [] }

/-- 'pianolalaw19.LiftNumbers': WHATEVER THE INPUT: true; the input reads as it did. -/
def liftNumbersSpec : ChangeSpec := { name := "liftNumbers", fn := fun _ => fun
  | [] => { results := [.lit (.bool true)], args := [] }
  | _ => none }
def liftNumbersRow : OpenClaim := { program := "ytkgidjnaddjjbaagreat", sum := "fd03fd6136de209ffb933b8d9bb7ae261f2b46843b4d942368388b753d5dd3cc", func := "pianola/pianolalaw19.LiftNumbers", spec := "liftNumbers", unfollowed := true, recurses := true, apart := false }
def LiftNumbersSaid : Prop := liftNumbersRow.holds Tryz.pinned (OpenSpec.ofChange liftNumbersSpec)

/-- ITS FALSE NEIGHBOUR: 'it returns false'. Refute it at one input. -/
def liftNumbersWrong : ChangeSpec := { name := "liftNumbers", fn := fun _ => fun
  | [] => { results := [.lit (.bool false)], args := [] }
  | _ => none }
def LiftNumbersWrongFalsely : Prop := liftNumbersRow.holds Tryz.pinned (OpenSpec.ofChange liftNumbersWrong)

/-- 'pianolalaw19.LiftTells': WHATEVER THE INPUT: true; the input reads as it did. -/
def liftTellsSpec : ChangeSpec := { name := "liftTells", fn := fun _ => fun
  | [d1, d2, d3] => { results := [.lit (.bool true)], args := [d1, d2, d3] }
  | _ => none }
def liftTellsRow : OpenClaim := { program := "ytkgidjnaddjjbaagreat", sum := "fd03fd6136de209ffb933b8d9bb7ae261f2b46843b4d942368388b753d5dd3cc", func := "pianola/pianolalaw19.LiftTells", spec := "liftTells", unfollowed := true, recurses := true, apart := false }
def LiftTellsSaid : Prop := liftTellsRow.holds Tryz.pinned (OpenSpec.ofChange liftTellsSpec)

/-- ITS FALSE NEIGHBOUR: 'it returns false'. Refute it at one input. -/
def liftTellsWrong : ChangeSpec := { name := "liftTells", fn := fun _ => fun
  | [d1, d2, d3] => { results := [.lit (.bool false)], args := [d1, d2, d3] }
  | _ => none }
def LiftTellsWrongFalsely : Prop := liftTellsRow.holds Tryz.pinned (OpenSpec.ofChange liftTellsWrong)

/-- 'pianolalaw19.LiftRows': WHATEVER THE INPUT: true; the input reads as it did. -/
def liftRowsSpec : ChangeSpec := { name := "liftRows", fn := fun _ => fun
  | [d1, d2] => { results := [.lit (.bool true)], args := [d1, d2] }
  | _ => none }
def liftRowsRow : OpenClaim := { program := "ytkgidjnaddjjbaagreat", sum := "fd03fd6136de209ffb933b8d9bb7ae261f2b46843b4d942368388b753d5dd3cc", func := "pianola/pianolalaw19.LiftRows", spec := "liftRows", unfollowed := true, recurses := true, apart := false }
def LiftRowsSaid : Prop := liftRowsRow.holds Tryz.pinned (OpenSpec.ofChange liftRowsSpec)

/-- ITS FALSE NEIGHBOUR: 'it returns false'. Refute it at one input. -/
def liftRowsWrong : ChangeSpec := { name := "liftRows", fn := fun _ => fun
  | [d1, d2] => { results := [.lit (.bool false)], args := [d1, d2] }
  | _ => none }
def LiftRowsWrongFalsely : Prop := liftRowsRow.holds Tryz.pinned (OpenSpec.ofChange liftRowsWrong)

/- THE SECOND FORM. 'bulk': how many values and letters a reading holds, each counted each time it is reached (what is shared counts as often as it is met; a slice's spare places count too). A statement '..UptoSaid' is the law's where the arguments, and the package variables that the reading takes, are together of bulk at most 1048576: NARROWER than '..Said'. Prove '..Said' where nothing that the law and all that it calls make is longer than what came in: it says more and counts as full. Else prove '..UptoSaid'. A law counts once. -/
mutual
def uptoBulk {H : Type} : DataW H → Nat
  | .lit (.string bytes) => bytes.length + 1
  | .lit _ => 1
  | .nil => 1
  | .ptr d => uptoBulk d + 1
  | .slice elems spare => uptoBulkAll elems + uptoBulkAll spare + 1
  | .agg parts => uptoBulkAll parts + 1
  | .iface _ d => uptoBulk d + 1
  | .map entries => uptoBulkEntries entries + 1
  | .held _ => 1
def uptoBulkAll {H : Type} : List (DataW H) → Nat
  | [] => 0
  | d :: r => uptoBulk d + uptoBulkAll r
def uptoBulkEntries {H : Type} : List (Lit × DataW H) → Nat
  | [] => 0
  | x :: r => uptoBulkEntry x + uptoBulkEntries r
def uptoBulkEntry {H : Type} : Lit × DataW H → Nat
  | (.string bytes, d) => bytes.length + uptoBulk d + 1
  | (_, d) => uptoBulk d + 1
 end
def uptoSmall : (H : Type) → List (DataW H) → Bool := fun _ ds => decide (uptoBulkAll ds ≤ 1048576)
def OpenSpec.upto (s : _root_.Go.ChangeSpec) : _root_.Go.OpenSpec := { _root_.Go.OpenSpec.ofChange s with cond := some uptoSmall }

/-- 'pianolalaw19.LiftNumbers', WHERE WHAT IT READS IS OF BULK AT MOST 1048576: true; the input reads as it did. -/
def liftNumbersUptoRow : OpenClaim := { program := "ytkgidjnaddjjbaagreat", sum := "fd03fd6136de209ffb933b8d9bb7ae261f2b46843b4d942368388b753d5dd3cc", func := "pianola/pianolalaw19.LiftNumbers", spec := "liftNumbers", unfollowed := true, recurses := true, apart := false, narrowed := true }
def LiftNumbersUptoSaid : Prop := liftNumbersUptoRow.holds Tryz.pinned (OpenSpec.upto liftNumbersSpec)

/-- 'pianolalaw19.LiftTells', WHERE WHAT IT READS IS OF BULK AT MOST 1048576: true; the input reads as it did. -/
def liftTellsUptoRow : OpenClaim := { program := "ytkgidjnaddjjbaagreat", sum := "fd03fd6136de209ffb933b8d9bb7ae261f2b46843b4d942368388b753d5dd3cc", func := "pianola/pianolalaw19.LiftTells", spec := "liftTells", unfollowed := true, recurses := true, apart := false, narrowed := true }
def LiftTellsUptoSaid : Prop := liftTellsUptoRow.holds Tryz.pinned (OpenSpec.upto liftTellsSpec)

/-- 'pianolalaw19.LiftRows', WHERE WHAT IT READS IS OF BULK AT MOST 1048576: true; the input reads as it did. -/
def liftRowsUptoRow : OpenClaim := { program := "ytkgidjnaddjjbaagreat", sum := "fd03fd6136de209ffb933b8d9bb7ae261f2b46843b4d942368388b753d5dd3cc", func := "pianola/pianolalaw19.LiftRows", spec := "liftRows", unfollowed := true, recurses := true, apart := false, narrowed := true }
def LiftRowsUptoSaid : Prop := liftRowsUptoRow.holds Tryz.pinned (OpenSpec.upto liftRowsSpec)

end Rows
end Go.Proofs.YtkgidjnaddjjbaaGreat
