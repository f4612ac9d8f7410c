/-
  No cell of these rows narrows 'for every input' (looked for: loops, veiled, ifaces, maps, wideKeys, modest, calm, conditions, laid).
  DERIVED. THE GIVEN ROWS OF THIS SEAT. 4 by the template 'for every input the law returns true; each argument reads behind the call as it read before'; 0 by the template 'total and deterministic' (their statements: YtmgalbmhbbickaaTotals.lean).
  GIVEN WITH THE SEED: the statements are not yours to turn. If you find one false, say at which input.
  Laid BY PROGRAM, IN A SANDBOX (cutbox-rows.mjs): the forced cells as the released guide's own fill.sh prints them over the translation 2b3129e1837696e8… (all of the seat's roots in one cut). By AI agents, Wed Nov 11 2026. No macro, syntax, notation, axiom, sorry.
-/
import Derived.Test.YtmgalbmhbbickaaChecked
import GoSem.Claim
import GoSem.ClaimJoined
import GoSem.ClaimMapViews
import Derived.JoinedTies
import Derived.KernelRfl
namespace Go.Proofs.Ytmgalbmhbbickaa
/- THE CELL 'sum', in the pinned program and in every row, IS THE sha256 OF THE DUMP (.gsa) THAT YtmgalbmhbbickaaProg.lean LOADS. Nothing in Lean hashes anything: it is a label: what it is worth is what the hold of that sum in a sandbox is worth. -/
noncomputable def Try.pinned : Pinned := { name := "ytmgalbmhbbickaa", sum := "2b3129e1837696e8c8bde9f67c80037412f2189070c061e42c2bcbd662222063", checked := Try.checked }
namespace Rows
def none {H : Type} : Left H := { results := [], args := [] }

/-- 'pianolalaw2.RamMarks': WHATEVER THE INPUT: true; the input reads as it did. -/
def ramMarksSpec : ChangeSpec := { name := "ramMarks", fn := fun _ => fun
  | [d1, d2] => { results := [.lit (.bool true)], args := [d1, d2] }
  | _ => none }
def ramMarksRow : OpenClaim := { program := "ytmgalbmhbbickaa", sum := "2b3129e1837696e8c8bde9f67c80037412f2189070c061e42c2bcbd662222063", func := "pianola/pianolalaw2.RamMarks", spec := "ramMarks", apart := false }
def RamMarksSaid : Prop := ramMarksRow.holds Try.pinned (OpenSpec.ofChange ramMarksSpec)

/-- ITS FALSE NEIGHBOUR: 'it returns false'. Refute it at one input. -/
def ramMarksWrong : ChangeSpec := { name := "ramMarks", fn := fun _ => fun
  | [d1, d2] => { results := [.lit (.bool false)], args := [d1, d2] }
  | _ => none }
def RamMarksWrongFalsely : Prop := ramMarksRow.holds Try.pinned (OpenSpec.ofChange ramMarksWrong)

/-- 'pianolalaw2.RamBytes': WHATEVER THE INPUT: true; the input reads as it did. -/
def ramBytesSpec : ChangeSpec := { name := "ramBytes", fn := fun _ => fun
  | [d1, d2, d3] => { results := [.lit (.bool true)], args := [d1, d2, d3] }
  | _ => none }
def ramBytesRow : OpenClaim := { program := "ytmgalbmhbbickaa", sum := "2b3129e1837696e8c8bde9f67c80037412f2189070c061e42c2bcbd662222063", func := "pianola/pianolalaw2.RamBytes", spec := "ramBytes", apart := false }
def RamBytesSaid : Prop := ramBytesRow.holds Try.pinned (OpenSpec.ofChange ramBytesSpec)

/-- ITS FALSE NEIGHBOUR: 'it returns false'. Refute it at one input. -/
def ramBytesWrong : ChangeSpec := { name := "ramBytes", fn := fun _ => fun
  | [d1, d2, d3] => { results := [.lit (.bool false)], args := [d1, d2, d3] }
  | _ => none }
def RamBytesWrongFalsely : Prop := ramBytesRow.holds Try.pinned (OpenSpec.ofChange ramBytesWrong)

/-- 'pianolalaw2.RamNumbers': WHATEVER THE INPUT: true; the input reads as it did. -/
def ramNumbersSpec : ChangeSpec := { name := "ramNumbers", fn := fun _ => fun
  | [] => { results := [.lit (.bool true)], args := [] }
  | _ => none }
def ramNumbersRow : OpenClaim := { program := "ytmgalbmhbbickaa", sum := "2b3129e1837696e8c8bde9f67c80037412f2189070c061e42c2bcbd662222063", func := "pianola/pianolalaw2.RamNumbers", spec := "ramNumbers", apart := false }
def RamNumbersSaid : Prop := ramNumbersRow.holds Try.pinned (OpenSpec.ofChange ramNumbersSpec)

/-- ITS FALSE NEIGHBOUR: 'it returns false'. Refute it at one input. -/
def ramNumbersWrong : ChangeSpec := { name := "ramNumbers", fn := fun _ => fun
  | [] => { results := [.lit (.bool false)], args := [] }
  | _ => none }
def RamNumbersWrongFalsely : Prop := ramNumbersRow.holds Try.pinned (OpenSpec.ofChange ramNumbersWrong)

/-- 'pianolalaw2.RamPlays': WHATEVER THE INPUT: true; the input reads as it did. -/
def ramPlaysSpec : ChangeSpec := { name := "ramPlays", fn := fun _ => fun
  | [d1, d2] => { results := [.lit (.bool true)], args := [d1, d2] }
  | _ => none }
def ramPlaysRow : OpenClaim := { program := "ytmgalbmhbbickaa", sum := "2b3129e1837696e8c8bde9f67c80037412f2189070c061e42c2bcbd662222063", func := "pianola/pianolalaw2.RamPlays", spec := "ramPlays", apart := false }
def RamPlaysSaid : Prop := ramPlaysRow.holds Try.pinned (OpenSpec.ofChange ramPlaysSpec)

/-- ITS FALSE NEIGHBOUR: 'it returns false'. Refute it at one input. -/
def ramPlaysWrong : ChangeSpec := { name := "ramPlays", fn := fun _ => fun
  | [d1, d2] => { results := [.lit (.bool false)], args := [d1, d2] }
  | _ => none }
def RamPlaysWrongFalsely : Prop := ramPlaysRow.holds Try.pinned (OpenSpec.ofChange ramPlaysWrong)

/- THE SECOND FORM. 'bulk': how many values and letters a reading holds, each counted each time it is reached (what is shared counts as often as it is met; a slice's spare places count too). A statement '..UptoSaid' is the law's where the arguments, and the package variables that the reading takes, are together of bulk at most 1048576: NARROWER than '..Said'. Prove '..Said' where nothing that the law and all that it calls make is longer than what came in: it says more and counts as full. Else prove '..UptoSaid'. A law counts once. -/
mutual
def uptoBulk {H : Type} : DataW H → Nat
  | .lit (.string bytes) => bytes.length + 1
  | .lit _ => 1
  | .nil => 1
  | .ptr d => uptoBulk d + 1
  | .slice elems spare => uptoBulkAll elems + uptoBulkAll spare + 1
  | .agg parts => uptoBulkAll parts + 1
  | .iface _ d => uptoBulk d + 1
  | .map entries => uptoBulkEntries entries + 1
  | .held _ => 1
def uptoBulkAll {H : Type} : List (DataW H) → Nat
  | [] => 0
  | d :: r => uptoBulk d + uptoBulkAll r
def uptoBulkEntries {H : Type} : List (Lit × DataW H) → Nat
  | [] => 0
  | x :: r => uptoBulkEntry x + uptoBulkEntries r
def uptoBulkEntry {H : Type} : Lit × DataW H → Nat
  | (.string bytes, d) => bytes.length + uptoBulk d + 1
  | (_, d) => uptoBulk d + 1
 end
def uptoSmall : (H : Type) → List (DataW H) → Bool := fun _ ds => decide (uptoBulkAll ds ≤ 1048576)
def OpenSpec.upto (s : _root_.Go.ChangeSpec) : _root_.Go.OpenSpec := { _root_.Go.OpenSpec.ofChange s with cond := some uptoSmall }

/-- 'pianolalaw2.RamMarks', WHERE WHAT IT READS IS OF BULK AT MOST 1048576: true; the input reads as it did. -/
def ramMarksUptoRow : OpenClaim := { program := "ytmgalbmhbbickaa", sum := "2b3129e1837696e8c8bde9f67c80037412f2189070c061e42c2bcbd662222063", func := "pianola/pianolalaw2.RamMarks", spec := "ramMarks", apart := false, narrowed := true }
def RamMarksUptoSaid : Prop := ramMarksUptoRow.holds Try.pinned (OpenSpec.upto ramMarksSpec)

/-- 'pianolalaw2.RamBytes', WHERE WHAT IT READS IS OF BULK AT MOST 1048576: true; the input reads as it did. -/
def ramBytesUptoRow : OpenClaim := { program := "ytmgalbmhbbickaa", sum := "2b3129e1837696e8c8bde9f67c80037412f2189070c061e42c2bcbd662222063", func := "pianola/pianolalaw2.RamBytes", spec := "ramBytes", apart := false, narrowed := true }
def RamBytesUptoSaid : Prop := ramBytesUptoRow.holds Try.pinned (OpenSpec.upto ramBytesSpec)

/-- 'pianolalaw2.RamNumbers', WHERE WHAT IT READS IS OF BULK AT MOST 1048576: true; the input reads as it did. -/
def ramNumbersUptoRow : OpenClaim := { program := "ytmgalbmhbbickaa", sum := "2b3129e1837696e8c8bde9f67c80037412f2189070c061e42c2bcbd662222063", func := "pianola/pianolalaw2.RamNumbers", spec := "ramNumbers", apart := false, narrowed := true }
def RamNumbersUptoSaid : Prop := ramNumbersUptoRow.holds Try.pinned (OpenSpec.upto ramNumbersSpec)

/-- 'pianolalaw2.RamPlays', WHERE WHAT IT READS IS OF BULK AT MOST 1048576: true; the input reads as it did. -/
def ramPlaysUptoRow : OpenClaim := { program := "ytmgalbmhbbickaa", sum := "2b3129e1837696e8c8bde9f67c80037412f2189070c061e42c2bcbd662222063", func := "pianola/pianolalaw2.RamPlays", spec := "ramPlays", apart := false, narrowed := true }
def RamPlaysUptoSaid : Prop := ramPlaysUptoRow.holds Try.pinned (OpenSpec.upto ramPlaysSpec)

end Rows
end Go.Proofs.Ytmgalbmhbbickaa
