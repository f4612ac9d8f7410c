/-
  No cell of these rows narrows 'for every input' (looked for: loops, veiled, ifaces, maps, wideKeys, modest, calm, conditions, laid).
  DERIVED. THE GIVEN ROWS OF THIS SEAT. 3 by the template 'for every input the law returns true; each argument reads behind the call as it read before'; 0 by the template 'total and deterministic' (their statements: YtppikpjmlbaccaaTotals.lean).
  GIVEN WITH THE SEED: the statements are not yours to turn. If you find one false, say at which input.
  Laid BY PROGRAM, IN A SANDBOX (cutbox-rows.mjs): the forced cells as the released guide's own fill.sh prints them over the translation 2d6216bb542af7a4… (all of the seat's roots in one cut). By AI agents, Wed Nov 11 2026. No macro, syntax, notation, axiom, sorry.
-/
import Derived.Test.YtppikpjmlbaccaaChecked
import GoSem.Claim
import GoSem.ClaimJoined
import GoSem.ClaimMapViews
import Derived.JoinedTies
import Derived.KernelRfl
namespace Go.Proofs.Ytppikpjmlbaccaa
/- THE CELL 'sum', in the pinned program and in every row, IS THE sha256 OF THE DUMP (.gsa) THAT YtppikpjmlbaccaaProg.lean LOADS. Nothing in Lean hashes anything: it is a label: what it is worth is what the hold of that sum in a sandbox is worth. -/
noncomputable def Try.pinned : Pinned := { name := "ytppikpjmlbaccaa", sum := "2d6216bb542af7a4ca92063a6889357741aa72ab66d40f8505e101fff9a53838", checked := Try.checked }
namespace Rows
def none {H : Type} : Left H := { results := [], args := [] }

/-- 'pianolalaw26.AsmNumbers': WHATEVER THE INPUT: true; the input reads as it did. -/
def asmNumbersSpec : ChangeSpec := { name := "asmNumbers", fn := fun _ => fun
  | [] => { results := [.lit (.bool true)], args := [] }
  | _ => none }
def asmNumbersRow : OpenClaim := { program := "ytppikpjmlbaccaa", sum := "2d6216bb542af7a4ca92063a6889357741aa72ab66d40f8505e101fff9a53838", func := "pianola/pianolalaw26.AsmNumbers", spec := "asmNumbers", apart := false }
def AsmNumbersSaid : Prop := asmNumbersRow.holds Try.pinned (OpenSpec.ofChange asmNumbersSpec)

/-- ITS FALSE NEIGHBOUR: 'it returns false'. Refute it at one input. -/
def asmNumbersWrong : ChangeSpec := { name := "asmNumbers", fn := fun _ => fun
  | [] => { results := [.lit (.bool false)], args := [] }
  | _ => none }
def AsmNumbersWrongFalsely : Prop := asmNumbersRow.holds Try.pinned (OpenSpec.ofChange asmNumbersWrong)

/-- 'pianolalaw26.AsmTells': WHATEVER THE INPUT: true; the input reads as it did. -/
def asmTellsSpec : ChangeSpec := { name := "asmTells", fn := fun _ => fun
  | [d1, d2, d3, d4, d5] => { results := [.lit (.bool true)], args := [d1, d2, d3, d4, d5] }
  | _ => none }
def asmTellsRow : OpenClaim := { program := "ytppikpjmlbaccaa", sum := "2d6216bb542af7a4ca92063a6889357741aa72ab66d40f8505e101fff9a53838", func := "pianola/pianolalaw26.AsmTells", spec := "asmTells", apart := false }
def AsmTellsSaid : Prop := asmTellsRow.holds Try.pinned (OpenSpec.ofChange asmTellsSpec)

/-- ITS FALSE NEIGHBOUR: 'it returns false'. Refute it at one input. -/
def asmTellsWrong : ChangeSpec := { name := "asmTells", fn := fun _ => fun
  | [d1, d2, d3, d4, d5] => { results := [.lit (.bool false)], args := [d1, d2, d3, d4, d5] }
  | _ => none }
def AsmTellsWrongFalsely : Prop := asmTellsRow.holds Try.pinned (OpenSpec.ofChange asmTellsWrong)

/-- 'pianolalaw26.AsmBack': WHATEVER THE INPUT: true; the input reads as it did. -/
def asmBackSpec : ChangeSpec := { name := "asmBack", fn := fun _ => fun
  | [d1, d2] => { results := [.lit (.bool true)], args := [d1, d2] }
  | _ => none }
def asmBackRow : OpenClaim := { program := "ytppikpjmlbaccaa", sum := "2d6216bb542af7a4ca92063a6889357741aa72ab66d40f8505e101fff9a53838", func := "pianola/pianolalaw26.AsmBack", spec := "asmBack", apart := false }
def AsmBackSaid : Prop := asmBackRow.holds Try.pinned (OpenSpec.ofChange asmBackSpec)

/-- ITS FALSE NEIGHBOUR: 'it returns false'. Refute it at one input. -/
def asmBackWrong : ChangeSpec := { name := "asmBack", fn := fun _ => fun
  | [d1, d2] => { results := [.lit (.bool false)], args := [d1, d2] }
  | _ => none }
def AsmBackWrongFalsely : Prop := asmBackRow.holds Try.pinned (OpenSpec.ofChange asmBackWrong)

/- THE SECOND FORM. 'bulk': how many values and letters a reading holds, each counted each time it is reached (what is shared counts as often as it is met; a slice's spare places count too). A statement '..UptoSaid' is the law's where the arguments, and the package variables that the reading takes, are together of bulk at most 1048576: NARROWER than '..Said'. Prove '..Said' where nothing that the law and all that it calls make is longer than what came in: it says more and counts as full. Else prove '..UptoSaid'. A law counts once. -/
mutual
def uptoBulk {H : Type} : DataW H → Nat
  | .lit (.string bytes) => bytes.length + 1
  | .lit _ => 1
  | .nil => 1
  | .ptr d => uptoBulk d + 1
  | .slice elems spare => uptoBulkAll elems + uptoBulkAll spare + 1
  | .agg parts => uptoBulkAll parts + 1
  | .iface _ d => uptoBulk d + 1
  | .map entries => uptoBulkEntries entries + 1
  | .held _ => 1
def uptoBulkAll {H : Type} : List (DataW H) → Nat
  | [] => 0
  | d :: r => uptoBulk d + uptoBulkAll r
def uptoBulkEntries {H : Type} : List (Lit × DataW H) → Nat
  | [] => 0
  | x :: r => uptoBulkEntry x + uptoBulkEntries r
def uptoBulkEntry {H : Type} : Lit × DataW H → Nat
  | (.string bytes, d) => bytes.length + uptoBulk d + 1
  | (_, d) => uptoBulk d + 1
 end
def uptoSmall : (H : Type) → List (DataW H) → Bool := fun _ ds => decide (uptoBulkAll ds ≤ 1048576)
def OpenSpec.upto (s : _root_.Go.ChangeSpec) : _root_.Go.OpenSpec := { _root_.Go.OpenSpec.ofChange s with cond := some uptoSmall }

/-- 'pianolalaw26.AsmNumbers', WHERE WHAT IT READS IS OF BULK AT MOST 1048576: true; the input reads as it did. -/
def asmNumbersUptoRow : OpenClaim := { program := "ytppikpjmlbaccaa", sum := "2d6216bb542af7a4ca92063a6889357741aa72ab66d40f8505e101fff9a53838", func := "pianola/pianolalaw26.AsmNumbers", spec := "asmNumbers", apart := false, narrowed := true }
def AsmNumbersUptoSaid : Prop := asmNumbersUptoRow.holds Try.pinned (OpenSpec.upto asmNumbersSpec)

/-- 'pianolalaw26.AsmTells', WHERE WHAT IT READS IS OF BULK AT MOST 1048576: true; the input reads as it did. -/
def asmTellsUptoRow : OpenClaim := { program := "ytppikpjmlbaccaa", sum := "2d6216bb542af7a4ca92063a6889357741aa72ab66d40f8505e101fff9a53838", func := "pianola/pianolalaw26.AsmTells", spec := "asmTells", apart := false, narrowed := true }
def AsmTellsUptoSaid : Prop := asmTellsUptoRow.holds Try.pinned (OpenSpec.upto asmTellsSpec)

/-- 'pianolalaw26.AsmBack', WHERE WHAT IT READS IS OF BULK AT MOST 1048576: true; the input reads as it did. -/
def asmBackUptoRow : OpenClaim := { program := "ytppikpjmlbaccaa", sum := "2d6216bb542af7a4ca92063a6889357741aa72ab66d40f8505e101fff9a53838", func := "pianola/pianolalaw26.AsmBack", spec := "asmBack", apart := false, narrowed := true }
def AsmBackUptoSaid : Prop := asmBackUptoRow.holds Try.pinned (OpenSpec.upto asmBackSpec)

end Rows
end Go.Proofs.Ytppikpjmlbaccaa
