/-
  No cell of these rows narrows 'for every input' (looked for: loops, veiled, ifaces, maps, wideKeys, modest, calm, conditions, laid).
  DERIVED. THE GIVEN ROWS OF THIS SEAT. 4 by the template 'for every input the law returns true; each argument reads behind the call as it read before'; 0 by the template 'total and deterministic' (their statements: YtdjieokcflogmaaTotals.lean).
  GIVEN WITH THE SEED: the statements are not yours to turn. If you find one false, say at which input.
  Laid BY PROGRAM, IN A SANDBOX (cutbox-rows.mjs): the forced cells as the released guide's own fill.sh prints them over the translation e86da92880a9d8e5… (all of the seat's roots in one cut). By AI agents, Wed Nov 11 2026. No macro, syntax, notation, axiom, sorry.
-/
import Derived.Test.YtdjieokcflogmaaChecked
import GoSem.Claim
import GoSem.ClaimJoined
import GoSem.ClaimMapViews
import Derived.JoinedTies
import Derived.KernelRfl
namespace Go.Proofs.Ytdjieokcflogmaa
/- THE CELL 'sum', in the pinned program and in every row, IS THE sha256 OF THE DUMP (.gsa) THAT YtdjieokcflogmaaProg.lean LOADS. Nothing in Lean hashes anything: it is a label: what it is worth is what the hold of that sum in a sandbox is worth. -/
noncomputable def Try.pinned : Pinned := { name := "ytdjieokcflogmaa", sum := "e86da92880a9d8e5a41a649a562aa0e44583da12745f1bd4ad36e0f05c59847a", checked := Try.checked }
namespace Rows
def none {H : Type} : Left H := { results := [], args := [] }

/-- 'pianolalaw8.SegTells': WHATEVER THE INPUT: true; the input reads as it did. -/
def segTellsSpec : ChangeSpec := { name := "segTells", fn := fun _ => fun
  | [d1, d2, d3] => { results := [.lit (.bool true)], args := [d1, d2, d3] }
  | _ => none }
def segTellsRow : OpenClaim := { program := "ytdjieokcflogmaa", sum := "e86da92880a9d8e5a41a649a562aa0e44583da12745f1bd4ad36e0f05c59847a", func := "pianola/pianolalaw8.SegTells", spec := "segTells", apart := false }
def SegTellsSaid : Prop := segTellsRow.holds Try.pinned (OpenSpec.ofChange segTellsSpec)

/-- ITS FALSE NEIGHBOUR: 'it returns false'. Refute it at one input. -/
def segTellsWrong : ChangeSpec := { name := "segTells", fn := fun _ => fun
  | [d1, d2, d3] => { results := [.lit (.bool false)], args := [d1, d2, d3] }
  | _ => none }
def SegTellsWrongFalsely : Prop := segTellsRow.holds Try.pinned (OpenSpec.ofChange segTellsWrong)

/-- 'pianolalaw8.SegDirect': WHATEVER THE INPUT: true; the input reads as it did. -/
def segDirectSpec : ChangeSpec := { name := "segDirect", fn := fun _ => fun
  | [d1, d2] => { results := [.lit (.bool true)], args := [d1, d2] }
  | _ => none }
def segDirectRow : OpenClaim := { program := "ytdjieokcflogmaa", sum := "e86da92880a9d8e5a41a649a562aa0e44583da12745f1bd4ad36e0f05c59847a", func := "pianola/pianolalaw8.SegDirect", spec := "segDirect", apart := false }
def SegDirectSaid : Prop := segDirectRow.holds Try.pinned (OpenSpec.ofChange segDirectSpec)

/-- ITS FALSE NEIGHBOUR: 'it returns false'. Refute it at one input. -/
def segDirectWrong : ChangeSpec := { name := "segDirect", fn := fun _ => fun
  | [d1, d2] => { results := [.lit (.bool false)], args := [d1, d2] }
  | _ => none }
def SegDirectWrongFalsely : Prop := segDirectRow.holds Try.pinned (OpenSpec.ofChange segDirectWrong)

/-- 'pianolalaw8.SegAligned': WHATEVER THE INPUT: true; the input reads as it did. -/
def segAlignedSpec : ChangeSpec := { name := "segAligned", fn := fun _ => fun
  | [d1, d2, d3] => { results := [.lit (.bool true)], args := [d1, d2, d3] }
  | _ => none }
def segAlignedRow : OpenClaim := { program := "ytdjieokcflogmaa", sum := "e86da92880a9d8e5a41a649a562aa0e44583da12745f1bd4ad36e0f05c59847a", func := "pianola/pianolalaw8.SegAligned", spec := "segAligned", apart := false }
def SegAlignedSaid : Prop := segAlignedRow.holds Try.pinned (OpenSpec.ofChange segAlignedSpec)

/-- ITS FALSE NEIGHBOUR: 'it returns false'. Refute it at one input. -/
def segAlignedWrong : ChangeSpec := { name := "segAligned", fn := fun _ => fun
  | [d1, d2, d3] => { results := [.lit (.bool false)], args := [d1, d2, d3] }
  | _ => none }
def SegAlignedWrongFalsely : Prop := segAlignedRow.holds Try.pinned (OpenSpec.ofChange segAlignedWrong)

/-- 'pianolalaw8.SegNumbers': WHATEVER THE INPUT: true; the input reads as it did. -/
def segNumbersSpec : ChangeSpec := { name := "segNumbers", fn := fun _ => fun
  | [] => { results := [.lit (.bool true)], args := [] }
  | _ => none }
def segNumbersRow : OpenClaim := { program := "ytdjieokcflogmaa", sum := "e86da92880a9d8e5a41a649a562aa0e44583da12745f1bd4ad36e0f05c59847a", func := "pianola/pianolalaw8.SegNumbers", spec := "segNumbers", apart := false }
def SegNumbersSaid : Prop := segNumbersRow.holds Try.pinned (OpenSpec.ofChange segNumbersSpec)

/-- ITS FALSE NEIGHBOUR: 'it returns false'. Refute it at one input. -/
def segNumbersWrong : ChangeSpec := { name := "segNumbers", fn := fun _ => fun
  | [] => { results := [.lit (.bool false)], args := [] }
  | _ => none }
def SegNumbersWrongFalsely : Prop := segNumbersRow.holds Try.pinned (OpenSpec.ofChange segNumbersWrong)

/- THE SECOND FORM. 'bulk': how many values and letters a reading holds, each counted each time it is reached (what is shared counts as often as it is met; a slice's spare places count too). A statement '..UptoSaid' is the law's where the arguments, and the package variables that the reading takes, are together of bulk at most 1048576: NARROWER than '..Said'. Prove '..Said' where nothing that the law and all that it calls make is longer than what came in: it says more and counts as full. Else prove '..UptoSaid'. A law counts once. -/
mutual
def uptoBulk {H : Type} : DataW H → Nat
  | .lit (.string bytes) => bytes.length + 1
  | .lit _ => 1
  | .nil => 1
  | .ptr d => uptoBulk d + 1
  | .slice elems spare => uptoBulkAll elems + uptoBulkAll spare + 1
  | .agg parts => uptoBulkAll parts + 1
  | .iface _ d => uptoBulk d + 1
  | .map entries => uptoBulkEntries entries + 1
  | .held _ => 1
def uptoBulkAll {H : Type} : List (DataW H) → Nat
  | [] => 0
  | d :: r => uptoBulk d + uptoBulkAll r
def uptoBulkEntries {H : Type} : List (Lit × DataW H) → Nat
  | [] => 0
  | x :: r => uptoBulkEntry x + uptoBulkEntries r
def uptoBulkEntry {H : Type} : Lit × DataW H → Nat
  | (.string bytes, d) => bytes.length + uptoBulk d + 1
  | (_, d) => uptoBulk d + 1
 end
def uptoSmall : (H : Type) → List (DataW H) → Bool := fun _ ds => decide (uptoBulkAll ds ≤ 1048576)
def OpenSpec.upto (s : _root_.Go.ChangeSpec) : _root_.Go.OpenSpec := { _root_.Go.OpenSpec.ofChange s with cond := some uptoSmall }

/-- 'pianolalaw8.SegTells', WHERE WHAT IT READS IS OF BULK AT MOST 1048576: true; the input reads as it did. -/
def segTellsUptoRow : OpenClaim := { program := "ytdjieokcflogmaa", sum := "e86da92880a9d8e5a41a649a562aa0e44583da12745f1bd4ad36e0f05c59847a", func := "pianola/pianolalaw8.SegTells", spec := "segTells", apart := false, narrowed := true }
def SegTellsUptoSaid : Prop := segTellsUptoRow.holds Try.pinned (OpenSpec.upto segTellsSpec)

/-- 'pianolalaw8.SegDirect', WHERE WHAT IT READS IS OF BULK AT MOST 1048576: true; the input reads as it did. -/
def segDirectUptoRow : OpenClaim := { program := "ytdjieokcflogmaa", sum := "e86da92880a9d8e5a41a649a562aa0e44583da12745f1bd4ad36e0f05c59847a", func := "pianola/pianolalaw8.SegDirect", spec := "segDirect", apart := false, narrowed := true }
def SegDirectUptoSaid : Prop := segDirectUptoRow.holds Try.pinned (OpenSpec.upto segDirectSpec)

/-- 'pianolalaw8.SegAligned', WHERE WHAT IT READS IS OF BULK AT MOST 1048576: true; the input reads as it did. -/
def segAlignedUptoRow : OpenClaim := { program := "ytdjieokcflogmaa", sum := "e86da92880a9d8e5a41a649a562aa0e44583da12745f1bd4ad36e0f05c59847a", func := "pianola/pianolalaw8.SegAligned", spec := "segAligned", apart := false, narrowed := true }
def SegAlignedUptoSaid : Prop := segAlignedUptoRow.holds Try.pinned (OpenSpec.upto segAlignedSpec)

/-- 'pianolalaw8.SegNumbers', WHERE WHAT IT READS IS OF BULK AT MOST 1048576: true; the input reads as it did. -/
def segNumbersUptoRow : OpenClaim := { program := "ytdjieokcflogmaa", sum := "e86da92880a9d8e5a41a649a562aa0e44583da12745f1bd4ad36e0f05c59847a", func := "pianola/pianolalaw8.SegNumbers", spec := "segNumbers", apart := false, narrowed := true }
def SegNumbersUptoSaid : Prop := segNumbersUptoRow.holds Try.pinned (OpenSpec.upto segNumbersSpec)

end Rows
end Go.Proofs.Ytdjieokcflogmaa
