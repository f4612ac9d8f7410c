/-
  No cell of these rows narrows 'for every input' (looked for: loops, veiled, ifaces, maps, wideKeys, modest, calm, conditions, laid).
  DERIVED. THE GIVEN ROWS OF THIS SEAT. 12 by the template 'for every input the law returns true; each argument reads behind the call as it read before'; 0 by the template 'total and deterministic' (their statements: YtkiggdgphbkneaaGreatTotals.lean).
  GIVEN WITH THE SEED: the statements are not yours to turn. If you find one false, say at which input.
  Laid BY PROGRAM, IN A SANDBOX (cutbox-rows.mjs): the forced cells as the released guide's own fill.sh prints them over the translation c7833e006617e819… (all of the seat's roots in one cut). By AI agents, Wed Nov 11 2026. No macro, syntax, notation, axiom, sorry.
-/
import Derived.Test.YtkiggdgphbkneaaGreatChecked
import GoSem.Claim
import GoSem.ClaimJoined
import GoSem.ClaimMapViews
import Derived.JoinedTies
import Derived.KernelRfl
namespace Go.Proofs.YtkiggdgphbkneaaGreat
/- THE CELL 'sum', in the pinned program and in every row, IS THE sha256 OF THE DUMP (.gsa) THAT YtkiggdgphbkneaaGreatProg.lean LOADS. Nothing in Lean hashes anything: it is a label: what it is worth is what the hold of that sum in a sandbox is worth. -/
noncomputable def Tryz.pinned : Pinned := { name := "ytkiggdgphbkneaagreat", sum := "c7833e006617e819157c38bd20e6e575425f744260cc6630508b9a66a5f83001", checked := Tryz.checked }
namespace Rows
def none {H : Type} : Left H := { results := [], args := [] }

/-- 'pianolatop.TopDisk': WHATEVER THE INPUT: true; the input reads as it did. -/
def topDiskSpec : ChangeSpec := { name := "topDisk", fn := fun _ => fun
  | [d1, d2, d3] => { results := [.lit (.bool true)], args := [d1, d2, d3] }
  | _ => none }
def topDiskRow : OpenClaim := { program := "ytkiggdgphbkneaagreat", sum := "c7833e006617e819157c38bd20e6e575425f744260cc6630508b9a66a5f83001", func := "pianola/pianolatop.TopDisk", spec := "topDisk", unfollowed := true, recurses := true, plainKeys := false, apart := false }
def TopDiskSaid : Prop := topDiskRow.holds Tryz.pinned (OpenSpec.ofChange topDiskSpec)

/-- ITS FALSE NEIGHBOUR: 'it returns false'. Refute it at one input. -/
def topDiskWrong : ChangeSpec := { name := "topDisk", fn := fun _ => fun
  | [d1, d2, d3] => { results := [.lit (.bool false)], args := [d1, d2, d3] }
  | _ => none }
def TopDiskWrongFalsely : Prop := topDiskRow.holds Tryz.pinned (OpenSpec.ofChange topDiskWrong)

/-- 'pianolatop.TopTraps': WHATEVER THE INPUT: true; the input reads as it did. -/
def topTrapsSpec : ChangeSpec := { name := "topTraps", fn := fun _ => fun
  | [d1, d2, d3] => { results := [.lit (.bool true)], args := [d1, d2, d3] }
  | _ => none }
def topTrapsRow : OpenClaim := { program := "ytkiggdgphbkneaagreat", sum := "c7833e006617e819157c38bd20e6e575425f744260cc6630508b9a66a5f83001", func := "pianola/pianolatop.TopTraps", spec := "topTraps", unfollowed := true, recurses := true, plainKeys := false, apart := false }
def TopTrapsSaid : Prop := topTrapsRow.holds Tryz.pinned (OpenSpec.ofChange topTrapsSpec)

/-- ITS FALSE NEIGHBOUR: 'it returns false'. Refute it at one input. -/
def topTrapsWrong : ChangeSpec := { name := "topTraps", fn := fun _ => fun
  | [d1, d2, d3] => { results := [.lit (.bool false)], args := [d1, d2, d3] }
  | _ => none }
def TopTrapsWrongFalsely : Prop := topTrapsRow.holds Tryz.pinned (OpenSpec.ofChange topTrapsWrong)

/-- 'pianolatop.TopPages': WHATEVER THE INPUT: true; the input reads as it did. -/
def topPagesSpec : ChangeSpec := { name := "topPages", fn := fun _ => fun
  | [d1, d2, d3, d4] => { results := [.lit (.bool true)], args := [d1, d2, d3, d4] }
  | _ => none }
def topPagesRow : OpenClaim := { program := "ytkiggdgphbkneaagreat", sum := "c7833e006617e819157c38bd20e6e575425f744260cc6630508b9a66a5f83001", func := "pianola/pianolatop.TopPages", spec := "topPages", unfollowed := true, recurses := true, plainKeys := false, apart := false }
def TopPagesSaid : Prop := topPagesRow.holds Tryz.pinned (OpenSpec.ofChange topPagesSpec)

/-- ITS FALSE NEIGHBOUR: 'it returns false'. Refute it at one input. -/
def topPagesWrong : ChangeSpec := { name := "topPages", fn := fun _ => fun
  | [d1, d2, d3, d4] => { results := [.lit (.bool false)], args := [d1, d2, d3, d4] }
  | _ => none }
def TopPagesWrongFalsely : Prop := topPagesRow.holds Tryz.pinned (OpenSpec.ofChange topPagesWrong)

/-- 'pianolatop.TopLinks': WHATEVER THE INPUT: true; the input reads as it did. -/
def topLinksSpec : ChangeSpec := { name := "topLinks", fn := fun _ => fun
  | [d1, d2, d3] => { results := [.lit (.bool true)], args := [d1, d2, d3] }
  | _ => none }
def topLinksRow : OpenClaim := { program := "ytkiggdgphbkneaagreat", sum := "c7833e006617e819157c38bd20e6e575425f744260cc6630508b9a66a5f83001", func := "pianola/pianolatop.TopLinks", spec := "topLinks", unfollowed := true, recurses := true, plainKeys := false, apart := false }
def TopLinksSaid : Prop := topLinksRow.holds Tryz.pinned (OpenSpec.ofChange topLinksSpec)

/-- ITS FALSE NEIGHBOUR: 'it returns false'. Refute it at one input. -/
def topLinksWrong : ChangeSpec := { name := "topLinks", fn := fun _ => fun
  | [d1, d2, d3] => { results := [.lit (.bool false)], args := [d1, d2, d3] }
  | _ => none }
def TopLinksWrongFalsely : Prop := topLinksRow.holds Tryz.pinned (OpenSpec.ofChange topLinksWrong)

/-- 'pianolatop.TopCounts': WHATEVER THE INPUT: true; the input reads as it did. -/
def topCountsSpec : ChangeSpec := { name := "topCounts", fn := fun _ => fun
  | [d1, d2] => { results := [.lit (.bool true)], args := [d1, d2] }
  | _ => none }
def topCountsRow : OpenClaim := { program := "ytkiggdgphbkneaagreat", sum := "c7833e006617e819157c38bd20e6e575425f744260cc6630508b9a66a5f83001", func := "pianola/pianolatop.TopCounts", spec := "topCounts", unfollowed := true, recurses := true, plainKeys := false, apart := false }
def TopCountsSaid : Prop := topCountsRow.holds Tryz.pinned (OpenSpec.ofChange topCountsSpec)

/-- ITS FALSE NEIGHBOUR: 'it returns false'. Refute it at one input. -/
def topCountsWrong : ChangeSpec := { name := "topCounts", fn := fun _ => fun
  | [d1, d2] => { results := [.lit (.bool false)], args := [d1, d2] }
  | _ => none }
def TopCountsWrongFalsely : Prop := topCountsRow.holds Tryz.pinned (OpenSpec.ofChange topCountsWrong)

/-- 'pianolatop.TopUsers': WHATEVER THE INPUT: true; the input reads as it did. -/
def topUsersSpec : ChangeSpec := { name := "topUsers", fn := fun _ => fun
  | [d1, d2] => { results := [.lit (.bool true)], args := [d1, d2] }
  | _ => none }
def topUsersRow : OpenClaim := { program := "ytkiggdgphbkneaagreat", sum := "c7833e006617e819157c38bd20e6e575425f744260cc6630508b9a66a5f83001", func := "pianola/pianolatop.TopUsers", spec := "topUsers", unfollowed := true, recurses := true, plainKeys := false, apart := false }
def TopUsersSaid : Prop := topUsersRow.holds Tryz.pinned (OpenSpec.ofChange topUsersSpec)

/-- ITS FALSE NEIGHBOUR: 'it returns false'. Refute it at one input. -/
def topUsersWrong : ChangeSpec := { name := "topUsers", fn := fun _ => fun
  | [d1, d2] => { results := [.lit (.bool false)], args := [d1, d2] }
  | _ => none }
def TopUsersWrongFalsely : Prop := topUsersRow.holds Tryz.pinned (OpenSpec.ofChange topUsersWrong)

/-- 'pianolatop.TopRefills': WHATEVER THE INPUT: true; the input reads as it did. -/
def topRefillsSpec : ChangeSpec := { name := "topRefills", fn := fun _ => fun
  | [d1, d2, d3] => { results := [.lit (.bool true)], args := [d1, d2, d3] }
  | _ => none }
def topRefillsRow : OpenClaim := { program := "ytkiggdgphbkneaagreat", sum := "c7833e006617e819157c38bd20e6e575425f744260cc6630508b9a66a5f83001", func := "pianola/pianolatop.TopRefills", spec := "topRefills", unfollowed := true, recurses := true, plainKeys := false, apart := false }
def TopRefillsSaid : Prop := topRefillsRow.holds Tryz.pinned (OpenSpec.ofChange topRefillsSpec)

/-- ITS FALSE NEIGHBOUR: 'it returns false'. Refute it at one input. -/
def topRefillsWrong : ChangeSpec := { name := "topRefills", fn := fun _ => fun
  | [d1, d2, d3] => { results := [.lit (.bool false)], args := [d1, d2, d3] }
  | _ => none }
def TopRefillsWrongFalsely : Prop := topRefillsRow.holds Tryz.pinned (OpenSpec.ofChange topRefillsWrong)

/-- 'pianolatop.TopNests': WHATEVER THE INPUT: true; the input reads as it did. -/
def topNestsSpec : ChangeSpec := { name := "topNests", fn := fun _ => fun
  | [d] => { results := [.lit (.bool true)], args := [d] }
  | _ => none }
def topNestsRow : OpenClaim := { program := "ytkiggdgphbkneaagreat", sum := "c7833e006617e819157c38bd20e6e575425f744260cc6630508b9a66a5f83001", func := "pianola/pianolatop.TopNests", spec := "topNests", unfollowed := true, recurses := true, plainKeys := false, apart := false }
def TopNestsSaid : Prop := topNestsRow.holds Tryz.pinned (OpenSpec.ofChange topNestsSpec)

/-- ITS FALSE NEIGHBOUR: 'it returns false'. Refute it at one input. -/
def topNestsWrong : ChangeSpec := { name := "topNests", fn := fun _ => fun
  | [d] => { results := [.lit (.bool false)], args := [d] }
  | _ => none }
def TopNestsWrongFalsely : Prop := topNestsRow.holds Tryz.pinned (OpenSpec.ofChange topNestsWrong)

/-- 'pianolatop.TopSorts': WHATEVER THE INPUT: true; the input reads as it did. -/
def topSortsSpec : ChangeSpec := { name := "topSorts", fn := fun _ => fun
  | [d1, d2, d3] => { results := [.lit (.bool true)], args := [d1, d2, d3] }
  | _ => none }
def topSortsRow : OpenClaim := { program := "ytkiggdgphbkneaagreat", sum := "c7833e006617e819157c38bd20e6e575425f744260cc6630508b9a66a5f83001", func := "pianola/pianolatop.TopSorts", spec := "topSorts", unfollowed := true, recurses := true, plainKeys := false, apart := false }
def TopSortsSaid : Prop := topSortsRow.holds Tryz.pinned (OpenSpec.ofChange topSortsSpec)

/-- ITS FALSE NEIGHBOUR: 'it returns false'. Refute it at one input. -/
def topSortsWrong : ChangeSpec := { name := "topSorts", fn := fun _ => fun
  | [d1, d2, d3] => { results := [.lit (.bool false)], args := [d1, d2, d3] }
  | _ => none }
def TopSortsWrongFalsely : Prop := topSortsRow.holds Tryz.pinned (OpenSpec.ofChange topSortsWrong)

/-- 'pianolatop.TopGcds': WHATEVER THE INPUT: true; the input reads as it did. -/
def topGcdsSpec : ChangeSpec := { name := "topGcds", fn := fun _ => fun
  | [d1, d2, d3, d4] => { results := [.lit (.bool true)], args := [d1, d2, d3, d4] }
  | _ => none }
def topGcdsRow : OpenClaim := { program := "ytkiggdgphbkneaagreat", sum := "c7833e006617e819157c38bd20e6e575425f744260cc6630508b9a66a5f83001", func := "pianola/pianolatop.TopGcds", spec := "topGcds", unfollowed := true, recurses := true, plainKeys := false, apart := false }
def TopGcdsSaid : Prop := topGcdsRow.holds Tryz.pinned (OpenSpec.ofChange topGcdsSpec)

/-- ITS FALSE NEIGHBOUR: 'it returns false'. Refute it at one input. -/
def topGcdsWrong : ChangeSpec := { name := "topGcds", fn := fun _ => fun
  | [d1, d2, d3, d4] => { results := [.lit (.bool false)], args := [d1, d2, d3, d4] }
  | _ => none }
def TopGcdsWrongFalsely : Prop := topGcdsRow.holds Tryz.pinned (OpenSpec.ofChange topGcdsWrong)

/-- 'pianolatop.TopMuls': WHATEVER THE INPUT: true; the input reads as it did. -/
def topMulsSpec : ChangeSpec := { name := "topMuls", fn := fun _ => fun
  | [d1, d2, d3, d4] => { results := [.lit (.bool true)], args := [d1, d2, d3, d4] }
  | _ => none }
def topMulsRow : OpenClaim := { program := "ytkiggdgphbkneaagreat", sum := "c7833e006617e819157c38bd20e6e575425f744260cc6630508b9a66a5f83001", func := "pianola/pianolatop.TopMuls", spec := "topMuls", unfollowed := true, recurses := true, plainKeys := false, apart := false }
def TopMulsSaid : Prop := topMulsRow.holds Tryz.pinned (OpenSpec.ofChange topMulsSpec)

/-- ITS FALSE NEIGHBOUR: 'it returns false'. Refute it at one input. -/
def topMulsWrong : ChangeSpec := { name := "topMuls", fn := fun _ => fun
  | [d1, d2, d3, d4] => { results := [.lit (.bool false)], args := [d1, d2, d3, d4] }
  | _ => none }
def TopMulsWrongFalsely : Prop := topMulsRow.holds Tryz.pinned (OpenSpec.ofChange topMulsWrong)

/-- 'pianolatop.TopTexts': WHATEVER THE INPUT: true; the input reads as it did. -/
def topTextsSpec : ChangeSpec := { name := "topTexts", fn := fun _ => fun
  | [d1, d2, d3, d4] => { results := [.lit (.bool true)], args := [d1, d2, d3, d4] }
  | _ => none }
def topTextsRow : OpenClaim := { program := "ytkiggdgphbkneaagreat", sum := "c7833e006617e819157c38bd20e6e575425f744260cc6630508b9a66a5f83001", func := "pianola/pianolatop.TopTexts", spec := "topTexts", unfollowed := true, recurses := true, plainKeys := false, apart := false }
def TopTextsSaid : Prop := topTextsRow.holds Tryz.pinned (OpenSpec.ofChange topTextsSpec)

/-- ITS FALSE NEIGHBOUR: 'it returns false'. Refute it at one input. -/
def topTextsWrong : ChangeSpec := { name := "topTexts", fn := fun _ => fun
  | [d1, d2, d3, d4] => { results := [.lit (.bool false)], args := [d1, d2, d3, d4] }
  | _ => none }
def TopTextsWrongFalsely : Prop := topTextsRow.holds Tryz.pinned (OpenSpec.ofChange topTextsWrong)

/- THE SECOND FORM. 'bulk': how many values and letters a reading holds, each counted each time it is reached (what is shared counts as often as it is met; a slice's spare places count too). A statement '..UptoSaid' is the law's where the arguments, and the package variables that the reading takes, are together of bulk at most 1048576: NARROWER than '..Said'. Prove '..Said' where nothing that the law and all that it calls make is longer than what came in: it says more and counts as full. Else prove '..UptoSaid'. A law counts once. -/
mutual
def uptoBulk {H : Type} : DataW H → Nat
  | .lit (.string bytes) => bytes.length + 1
  | .lit _ => 1
  | .nil => 1
  | .ptr d => uptoBulk d + 1
  | .slice elems spare => uptoBulkAll elems + uptoBulkAll spare + 1
  | .agg parts => uptoBulkAll parts + 1
  | .iface _ d => uptoBulk d + 1
  | .map entries => uptoBulkEntries entries + 1
  | .held _ => 1
def uptoBulkAll {H : Type} : List (DataW H) → Nat
  | [] => 0
  | d :: r => uptoBulk d + uptoBulkAll r
def uptoBulkEntries {H : Type} : List (Lit × DataW H) → Nat
  | [] => 0
  | x :: r => uptoBulkEntry x + uptoBulkEntries r
def uptoBulkEntry {H : Type} : Lit × DataW H → Nat
  | (.string bytes, d) => bytes.length + uptoBulk d + 1
  | (_, d) => uptoBulk d + 1
 end
def uptoSmall : (H : Type) → List (DataW H) → Bool := fun _ ds => decide (uptoBulkAll ds ≤ 1048576)
def OpenSpec.upto (s : _root_.Go.ChangeSpec) : _root_.Go.OpenSpec := { _root_.Go.OpenSpec.ofChange s with cond := some uptoSmall }

/-- 'pianolatop.TopDisk', WHERE WHAT IT READS IS OF BULK AT MOST 1048576: true; the input reads as it did. -/
def topDiskUptoRow : OpenClaim := { program := "ytkiggdgphbkneaagreat", sum := "c7833e006617e819157c38bd20e6e575425f744260cc6630508b9a66a5f83001", func := "pianola/pianolatop.TopDisk", spec := "topDisk", unfollowed := true, recurses := true, plainKeys := false, apart := false, narrowed := true }
def TopDiskUptoSaid : Prop := topDiskUptoRow.holds Tryz.pinned (OpenSpec.upto topDiskSpec)

/-- 'pianolatop.TopTraps', WHERE WHAT IT READS IS OF BULK AT MOST 1048576: true; the input reads as it did. -/
def topTrapsUptoRow : OpenClaim := { program := "ytkiggdgphbkneaagreat", sum := "c7833e006617e819157c38bd20e6e575425f744260cc6630508b9a66a5f83001", func := "pianola/pianolatop.TopTraps", spec := "topTraps", unfollowed := true, recurses := true, plainKeys := false, apart := false, narrowed := true }
def TopTrapsUptoSaid : Prop := topTrapsUptoRow.holds Tryz.pinned (OpenSpec.upto topTrapsSpec)

/-- 'pianolatop.TopPages', WHERE WHAT IT READS IS OF BULK AT MOST 1048576: true; the input reads as it did. -/
def topPagesUptoRow : OpenClaim := { program := "ytkiggdgphbkneaagreat", sum := "c7833e006617e819157c38bd20e6e575425f744260cc6630508b9a66a5f83001", func := "pianola/pianolatop.TopPages", spec := "topPages", unfollowed := true, recurses := true, plainKeys := false, apart := false, narrowed := true }
def TopPagesUptoSaid : Prop := topPagesUptoRow.holds Tryz.pinned (OpenSpec.upto topPagesSpec)

/-- 'pianolatop.TopLinks', WHERE WHAT IT READS IS OF BULK AT MOST 1048576: true; the input reads as it did. -/
def topLinksUptoRow : OpenClaim := { program := "ytkiggdgphbkneaagreat", sum := "c7833e006617e819157c38bd20e6e575425f744260cc6630508b9a66a5f83001", func := "pianola/pianolatop.TopLinks", spec := "topLinks", unfollowed := true, recurses := true, plainKeys := false, apart := false, narrowed := true }
def TopLinksUptoSaid : Prop := topLinksUptoRow.holds Tryz.pinned (OpenSpec.upto topLinksSpec)

/-- 'pianolatop.TopCounts', WHERE WHAT IT READS IS OF BULK AT MOST 1048576: true; the input reads as it did. -/
def topCountsUptoRow : OpenClaim := { program := "ytkiggdgphbkneaagreat", sum := "c7833e006617e819157c38bd20e6e575425f744260cc6630508b9a66a5f83001", func := "pianola/pianolatop.TopCounts", spec := "topCounts", unfollowed := true, recurses := true, plainKeys := false, apart := false, narrowed := true }
def TopCountsUptoSaid : Prop := topCountsUptoRow.holds Tryz.pinned (OpenSpec.upto topCountsSpec)

/-- 'pianolatop.TopUsers', WHERE WHAT IT READS IS OF BULK AT MOST 1048576: true; the input reads as it did. -/
def topUsersUptoRow : OpenClaim := { program := "ytkiggdgphbkneaagreat", sum := "c7833e006617e819157c38bd20e6e575425f744260cc6630508b9a66a5f83001", func := "pianola/pianolatop.TopUsers", spec := "topUsers", unfollowed := true, recurses := true, plainKeys := false, apart := false, narrowed := true }
def TopUsersUptoSaid : Prop := topUsersUptoRow.holds Tryz.pinned (OpenSpec.upto topUsersSpec)

/-- 'pianolatop.TopRefills', WHERE WHAT IT READS IS OF BULK AT MOST 1048576: true; the input reads as it did. -/
def topRefillsUptoRow : OpenClaim := { program := "ytkiggdgphbkneaagreat", sum := "c7833e006617e819157c38bd20e6e575425f744260cc6630508b9a66a5f83001", func := "pianola/pianolatop.TopRefills", spec := "topRefills", unfollowed := true, recurses := true, plainKeys := false, apart := false, narrowed := true }
def TopRefillsUptoSaid : Prop := topRefillsUptoRow.holds Tryz.pinned (OpenSpec.upto topRefillsSpec)

/-- 'pianolatop.TopNests', WHERE WHAT IT READS IS OF BULK AT MOST 1048576: true; the input reads as it did. -/
def topNestsUptoRow : OpenClaim := { program := "ytkiggdgphbkneaagreat", sum := "c7833e006617e819157c38bd20e6e575425f744260cc6630508b9a66a5f83001", func := "pianola/pianolatop.TopNests", spec := "topNests", unfollowed := true, recurses := true, plainKeys := false, apart := false, narrowed := true }
def TopNestsUptoSaid : Prop := topNestsUptoRow.holds Tryz.pinned (OpenSpec.upto topNestsSpec)

/-- 'pianolatop.TopSorts', WHERE WHAT IT READS IS OF BULK AT MOST 1048576: true; the input reads as it did. -/
def topSortsUptoRow : OpenClaim := { program := "ytkiggdgphbkneaagreat", sum := "c7833e006617e819157c38bd20e6e575425f744260cc6630508b9a66a5f83001", func := "pianola/pianolatop.TopSorts", spec := "topSorts", unfollowed := true, recurses := true, plainKeys := false, apart := false, narrowed := true }
def TopSortsUptoSaid : Prop := topSortsUptoRow.holds Tryz.pinned (OpenSpec.upto topSortsSpec)

/-- 'pianolatop.TopGcds', WHERE WHAT IT READS IS OF BULK AT MOST 1048576: true; the input reads as it did. -/
def topGcdsUptoRow : OpenClaim := { program := "ytkiggdgphbkneaagreat", sum := "c7833e006617e819157c38bd20e6e575425f744260cc6630508b9a66a5f83001", func := "pianola/pianolatop.TopGcds", spec := "topGcds", unfollowed := true, recurses := true, plainKeys := false, apart := false, narrowed := true }
def TopGcdsUptoSaid : Prop := topGcdsUptoRow.holds Tryz.pinned (OpenSpec.upto topGcdsSpec)

/-- 'pianolatop.TopMuls', WHERE WHAT IT READS IS OF BULK AT MOST 1048576: true; the input reads as it did. -/
def topMulsUptoRow : OpenClaim := { program := "ytkiggdgphbkneaagreat", sum := "c7833e006617e819157c38bd20e6e575425f744260cc6630508b9a66a5f83001", func := "pianola/pianolatop.TopMuls", spec := "topMuls", unfollowed := true, recurses := true, plainKeys := false, apart := false, narrowed := true }
def TopMulsUptoSaid : Prop := topMulsUptoRow.holds Tryz.pinned (OpenSpec.upto topMulsSpec)

/-- 'pianolatop.TopTexts', WHERE WHAT IT READS IS OF BULK AT MOST 1048576: true; the input reads as it did. -/
def topTextsUptoRow : OpenClaim := { program := "ytkiggdgphbkneaagreat", sum := "c7833e006617e819157c38bd20e6e575425f744260cc6630508b9a66a5f83001", func := "pianola/pianolatop.TopTexts", spec := "topTexts", unfollowed := true, recurses := true, plainKeys := false, apart := false, narrowed := true }
def TopTextsUptoSaid : Prop := topTextsUptoRow.holds Tryz.pinned (OpenSpec.upto topTextsSpec)

end Rows
end Go.Proofs.YtkiggdgphbkneaaGreat
