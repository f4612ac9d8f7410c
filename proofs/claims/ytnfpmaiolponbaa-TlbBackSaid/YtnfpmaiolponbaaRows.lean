/-
  No cell of these rows narrows 'for every input' (looked for: loops, veiled, ifaces, maps, wideKeys, modest, calm, conditions, laid).
  DERIVED. THE GIVEN ROWS OF THIS SEAT. 4 by the template 'for every input the law returns true; each argument reads behind the call as it read before'; 0 by the template 'total and deterministic' (their statements: YtnfpmaiolponbaaTotals.lean).
  GIVEN WITH THE SEED: the statements are not yours to turn. If you find one false, say at which input.
  Laid BY PROGRAM, IN A SANDBOX (cutbox-rows.mjs): the forced cells as the released guide's own fill.sh prints them over the translation e190a42d98a86b5a… (all of the seat's roots in one cut). By AI agents, Wed Nov 11 2026. No macro, syntax, notation, axiom, sorry.
-/
import Derived.Test.YtnfpmaiolponbaaChecked
import GoSem.Claim
import GoSem.ClaimJoined
import GoSem.ClaimMapViews
import Derived.JoinedTies
import Derived.KernelRfl
namespace Go.Proofs.Ytnfpmaiolponbaa
/- THE CELL 'sum', in the pinned program and in every row, IS THE sha256 OF THE DUMP (.gsa) THAT YtnfpmaiolponbaaProg.lean LOADS. Nothing in Lean hashes anything: it is a label: what it is worth is what the hold of that sum in a sandbox is worth. -/
noncomputable def Try.pinned : Pinned := { name := "ytnfpmaiolponbaa", sum := "e190a42d98a86b5a2c4b477ac8c33e1ec1d0033ddc12d0938976044061af6b91", checked := Try.checked }
namespace Rows
def none {H : Type} : Left H := { results := [], args := [] }

/-- 'pianolalaw7.TlbSpaces': WHATEVER THE INPUT: true; the input reads as it did. -/
def tlbSpacesSpec : ChangeSpec := { name := "tlbSpaces", fn := fun _ => fun
  | [d1, d2, d3, d4] => { results := [.lit (.bool true)], args := [d1, d2, d3, d4] }
  | _ => none }
def tlbSpacesRow : OpenClaim := { program := "ytnfpmaiolponbaa", sum := "e190a42d98a86b5a2c4b477ac8c33e1ec1d0033ddc12d0938976044061af6b91", func := "pianola/pianolalaw7.TlbSpaces", spec := "tlbSpaces", apart := false }
def TlbSpacesSaid : Prop := tlbSpacesRow.holds Try.pinned (OpenSpec.ofChange tlbSpacesSpec)

/-- ITS FALSE NEIGHBOUR: 'it returns false'. Refute it at one input. -/
def tlbSpacesWrong : ChangeSpec := { name := "tlbSpaces", fn := fun _ => fun
  | [d1, d2, d3, d4] => { results := [.lit (.bool false)], args := [d1, d2, d3, d4] }
  | _ => none }
def TlbSpacesWrongFalsely : Prop := tlbSpacesRow.holds Try.pinned (OpenSpec.ofChange tlbSpacesWrong)

/-- 'pianolalaw7.TlbNumbers': WHATEVER THE INPUT: true; the input reads as it did. -/
def tlbNumbersSpec : ChangeSpec := { name := "tlbNumbers", fn := fun _ => fun
  | [] => { results := [.lit (.bool true)], args := [] }
  | _ => none }
def tlbNumbersRow : OpenClaim := { program := "ytnfpmaiolponbaa", sum := "e190a42d98a86b5a2c4b477ac8c33e1ec1d0033ddc12d0938976044061af6b91", func := "pianola/pianolalaw7.TlbNumbers", spec := "tlbNumbers", apart := false }
def TlbNumbersSaid : Prop := tlbNumbersRow.holds Try.pinned (OpenSpec.ofChange tlbNumbersSpec)

/-- ITS FALSE NEIGHBOUR: 'it returns false'. Refute it at one input. -/
def tlbNumbersWrong : ChangeSpec := { name := "tlbNumbers", fn := fun _ => fun
  | [] => { results := [.lit (.bool false)], args := [] }
  | _ => none }
def TlbNumbersWrongFalsely : Prop := tlbNumbersRow.holds Try.pinned (OpenSpec.ofChange tlbNumbersWrong)

/-- 'pianolalaw7.TlbPlays': WHATEVER THE INPUT: true; the input reads as it did. -/
def tlbPlaysSpec : ChangeSpec := { name := "tlbPlays", fn := fun _ => fun
  | [d1, d2, d3] => { results := [.lit (.bool true)], args := [d1, d2, d3] }
  | _ => none }
def tlbPlaysRow : OpenClaim := { program := "ytnfpmaiolponbaa", sum := "e190a42d98a86b5a2c4b477ac8c33e1ec1d0033ddc12d0938976044061af6b91", func := "pianola/pianolalaw7.TlbPlays", spec := "tlbPlays", apart := false }
def TlbPlaysSaid : Prop := tlbPlaysRow.holds Try.pinned (OpenSpec.ofChange tlbPlaysSpec)

/-- ITS FALSE NEIGHBOUR: 'it returns false'. Refute it at one input. -/
def tlbPlaysWrong : ChangeSpec := { name := "tlbPlays", fn := fun _ => fun
  | [d1, d2, d3] => { results := [.lit (.bool false)], args := [d1, d2, d3] }
  | _ => none }
def TlbPlaysWrongFalsely : Prop := tlbPlaysRow.holds Try.pinned (OpenSpec.ofChange tlbPlaysWrong)

/-- 'pianolalaw7.TlbBack': WHATEVER THE INPUT: true; the input reads as it did. -/
def tlbBackSpec : ChangeSpec := { name := "tlbBack", fn := fun _ => fun
  | [d1, d2, d3, d4] => { results := [.lit (.bool true)], args := [d1, d2, d3, d4] }
  | _ => none }
def tlbBackRow : OpenClaim := { program := "ytnfpmaiolponbaa", sum := "e190a42d98a86b5a2c4b477ac8c33e1ec1d0033ddc12d0938976044061af6b91", func := "pianola/pianolalaw7.TlbBack", spec := "tlbBack", apart := false }
def TlbBackSaid : Prop := tlbBackRow.holds Try.pinned (OpenSpec.ofChange tlbBackSpec)

/-- ITS FALSE NEIGHBOUR: 'it returns false'. Refute it at one input. -/
def tlbBackWrong : ChangeSpec := { name := "tlbBack", fn := fun _ => fun
  | [d1, d2, d3, d4] => { results := [.lit (.bool false)], args := [d1, d2, d3, d4] }
  | _ => none }
def TlbBackWrongFalsely : Prop := tlbBackRow.holds Try.pinned (OpenSpec.ofChange tlbBackWrong)

/- THE SECOND FORM. 'bulk': how many values and letters a reading holds, each counted each time it is reached (what is shared counts as often as it is met; a slice's spare places count too). A statement '..UptoSaid' is the law's where the arguments, and the package variables that the reading takes, are together of bulk at most 1048576: NARROWER than '..Said'. Prove '..Said' where nothing that the law and all that it calls make is longer than what came in: it says more and counts as full. Else prove '..UptoSaid'. A law counts once. -/
mutual
def uptoBulk {H : Type} : DataW H → Nat
  | .lit (.string bytes) => bytes.length + 1
  | .lit _ => 1
  | .nil => 1
  | .ptr d => uptoBulk d + 1
  | .slice elems spare => uptoBulkAll elems + uptoBulkAll spare + 1
  | .agg parts => uptoBulkAll parts + 1
  | .iface _ d => uptoBulk d + 1
  | .map entries => uptoBulkEntries entries + 1
  | .held _ => 1
def uptoBulkAll {H : Type} : List (DataW H) → Nat
  | [] => 0
  | d :: r => uptoBulk d + uptoBulkAll r
def uptoBulkEntries {H : Type} : List (Lit × DataW H) → Nat
  | [] => 0
  | x :: r => uptoBulkEntry x + uptoBulkEntries r
def uptoBulkEntry {H : Type} : Lit × DataW H → Nat
  | (.string bytes, d) => bytes.length + uptoBulk d + 1
  | (_, d) => uptoBulk d + 1
 end
def uptoSmall : (H : Type) → List (DataW H) → Bool := fun _ ds => decide (uptoBulkAll ds ≤ 1048576)
def OpenSpec.upto (s : _root_.Go.ChangeSpec) : _root_.Go.OpenSpec := { _root_.Go.OpenSpec.ofChange s with cond := some uptoSmall }

/-- 'pianolalaw7.TlbSpaces', WHERE WHAT IT READS IS OF BULK AT MOST 1048576: true; the input reads as it did. -/
def tlbSpacesUptoRow : OpenClaim := { program := "ytnfpmaiolponbaa", sum := "e190a42d98a86b5a2c4b477ac8c33e1ec1d0033ddc12d0938976044061af6b91", func := "pianola/pianolalaw7.TlbSpaces", spec := "tlbSpaces", apart := false, narrowed := true }
def TlbSpacesUptoSaid : Prop := tlbSpacesUptoRow.holds Try.pinned (OpenSpec.upto tlbSpacesSpec)

/-- 'pianolalaw7.TlbNumbers', WHERE WHAT IT READS IS OF BULK AT MOST 1048576: true; the input reads as it did. -/
def tlbNumbersUptoRow : OpenClaim := { program := "ytnfpmaiolponbaa", sum := "e190a42d98a86b5a2c4b477ac8c33e1ec1d0033ddc12d0938976044061af6b91", func := "pianola/pianolalaw7.TlbNumbers", spec := "tlbNumbers", apart := false, narrowed := true }
def TlbNumbersUptoSaid : Prop := tlbNumbersUptoRow.holds Try.pinned (OpenSpec.upto tlbNumbersSpec)

/-- 'pianolalaw7.TlbPlays', WHERE WHAT IT READS IS OF BULK AT MOST 1048576: true; the input reads as it did. -/
def tlbPlaysUptoRow : OpenClaim := { program := "ytnfpmaiolponbaa", sum := "e190a42d98a86b5a2c4b477ac8c33e1ec1d0033ddc12d0938976044061af6b91", func := "pianola/pianolalaw7.TlbPlays", spec := "tlbPlays", apart := false, narrowed := true }
def TlbPlaysUptoSaid : Prop := tlbPlaysUptoRow.holds Try.pinned (OpenSpec.upto tlbPlaysSpec)

/-- 'pianolalaw7.TlbBack', WHERE WHAT IT READS IS OF BULK AT MOST 1048576: true; the input reads as it did. -/
def tlbBackUptoRow : OpenClaim := { program := "ytnfpmaiolponbaa", sum := "e190a42d98a86b5a2c4b477ac8c33e1ec1d0033ddc12d0938976044061af6b91", func := "pianola/pianolalaw7.TlbBack", spec := "tlbBack", apart := false, narrowed := true }
def TlbBackUptoSaid : Prop := tlbBackUptoRow.holds Try.pinned (OpenSpec.upto tlbBackSpec)

end Rows
end Go.Proofs.Ytnfpmaiolponbaa
