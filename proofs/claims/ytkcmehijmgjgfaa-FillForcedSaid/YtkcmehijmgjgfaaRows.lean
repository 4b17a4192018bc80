/-
  No cell of these rows narrows 'for every input' (looked for: loops, veiled, ifaces, maps, wideKeys, modest, calm, conditions, laid).
  DERIVED. THE GIVEN ROWS OF THIS SEAT. 13 by the template 'for every input the law returns true; each argument reads behind the call as it read before'; 0 by the template 'total and deterministic' (their statements: YtkcmehijmgjgfaaTotals.lean).
  GIVEN WITH THE SEED: the statements are not yours to turn. If you find one false, say at which input.
  Laid BY PROGRAM, IN A SANDBOX (cutbox-rows.mjs): the forced cells as the released guide's own fill.sh prints them over the translation bb9cb087ac1a2032… (all of the seat's roots in one cut). By AI agents, Wed Nov 11 2026. No macro, syntax, notation, axiom, sorry.
-/
import Derived.Test.YtkcmehijmgjgfaaChecked
import GoSem.Claim
import GoSem.ClaimJoined
import GoSem.ClaimMapViews
import Derived.JoinedTies
import Derived.KernelRfl
namespace Go.Proofs.Ytkcmehijmgjgfaa
/- THE CELL 'sum', in the pinned program and in every row, IS THE sha256 OF THE DUMP (.gsa) THAT YtkcmehijmgjgfaaProg.lean LOADS. Nothing in Lean hashes anything: it is a label: what it is worth is what the hold of that sum in a sandbox is worth. -/
noncomputable def Try.pinned : Pinned := { name := "ytkcmehijmgjgfaa", sum := "bb9cb087ac1a203255bd8e5de366cb5f1b6d69d3bb833b3dc34dd8894bbc4495", checked := Try.checked }
namespace Rows
def none {H : Type} : Left H := { results := [], args := [] }

/-- 'stickfullaw13.TrimBounds': WHATEVER THE INPUT: true; the input reads as it did. -/
def trimBoundsSpec : ChangeSpec := { name := "trimBounds", fn := fun _ => fun
  | [d1, d2] => { results := [.lit (.bool true)], args := [d1, d2] }
  | _ => none }
def trimBoundsRow : OpenClaim := { program := "ytkcmehijmgjgfaa", sum := "bb9cb087ac1a203255bd8e5de366cb5f1b6d69d3bb833b3dc34dd8894bbc4495", func := "stickful/stickfullaw13.TrimBounds", spec := "trimBounds", inPlace := ["math/bits.Add64"], unfollowed := true, recurses := true, apart := false }
def TrimBoundsSaid : Prop := trimBoundsRow.holds Try.pinned (OpenSpec.ofChange trimBoundsSpec)

/-- ITS FALSE NEIGHBOUR: 'it returns false'. Refute it at one input. -/
def trimBoundsWrong : ChangeSpec := { name := "trimBounds", fn := fun _ => fun
  | [d1, d2] => { results := [.lit (.bool false)], args := [d1, d2] }
  | _ => none }
def TrimBoundsWrongFalsely : Prop := trimBoundsRow.holds Try.pinned (OpenSpec.ofChange trimBoundsWrong)

/-- 'stickfullaw21.IntrinsicGrows': WHATEVER THE INPUT: true; the input reads as it did. -/
def intrinsicGrowsSpec : ChangeSpec := { name := "intrinsicGrows", fn := fun _ => fun
  | [d1, d2] => { results := [.lit (.bool true)], args := [d1, d2] }
  | _ => none }
def intrinsicGrowsRow : OpenClaim := { program := "ytkcmehijmgjgfaa", sum := "bb9cb087ac1a203255bd8e5de366cb5f1b6d69d3bb833b3dc34dd8894bbc4495", func := "stickful/stickfullaw21.IntrinsicGrows", spec := "intrinsicGrows", inPlace := ["math/bits.Add64"], unfollowed := true, recurses := true, apart := false }
def IntrinsicGrowsSaid : Prop := intrinsicGrowsRow.holds Try.pinned (OpenSpec.ofChange intrinsicGrowsSpec)

/-- ITS FALSE NEIGHBOUR: 'it returns false'. Refute it at one input. -/
def intrinsicGrowsWrong : ChangeSpec := { name := "intrinsicGrows", fn := fun _ => fun
  | [d1, d2] => { results := [.lit (.bool false)], args := [d1, d2] }
  | _ => none }
def IntrinsicGrowsWrongFalsely : Prop := intrinsicGrowsRow.holds Try.pinned (OpenSpec.ofChange intrinsicGrowsWrong)

/-- 'stickfullaw21.IntrinsicSofter': WHATEVER THE INPUT: true; the input reads as it did. -/
def intrinsicSofterSpec : ChangeSpec := { name := "intrinsicSofter", fn := fun _ => fun
  | [d1, d2, d3] => { results := [.lit (.bool true)], args := [d1, d2, d3] }
  | _ => none }
def intrinsicSofterRow : OpenClaim := { program := "ytkcmehijmgjgfaa", sum := "bb9cb087ac1a203255bd8e5de366cb5f1b6d69d3bb833b3dc34dd8894bbc4495", func := "stickful/stickfullaw21.IntrinsicSofter", spec := "intrinsicSofter", inPlace := ["math/bits.Add64"], unfollowed := true, recurses := true, apart := false }
def IntrinsicSofterSaid : Prop := intrinsicSofterRow.holds Try.pinned (OpenSpec.ofChange intrinsicSofterSpec)

/-- ITS FALSE NEIGHBOUR: 'it returns false'. Refute it at one input. -/
def intrinsicSofterWrong : ChangeSpec := { name := "intrinsicSofter", fn := fun _ => fun
  | [d1, d2, d3] => { results := [.lit (.bool false)], args := [d1, d2, d3] }
  | _ => none }
def IntrinsicSofterWrongFalsely : Prop := intrinsicSofterRow.holds Try.pinned (OpenSpec.ofChange intrinsicSofterWrong)

/-- 'stickfullaw21.IntrinsicTells': WHATEVER THE INPUT: true; the input reads as it did. -/
def intrinsicTellsSpec : ChangeSpec := { name := "intrinsicTells", fn := fun _ => fun
  | [d] => { results := [.lit (.bool true)], args := [d] }
  | _ => none }
def intrinsicTellsRow : OpenClaim := { program := "ytkcmehijmgjgfaa", sum := "bb9cb087ac1a203255bd8e5de366cb5f1b6d69d3bb833b3dc34dd8894bbc4495", func := "stickful/stickfullaw21.IntrinsicTells", spec := "intrinsicTells", inPlace := ["math/bits.Add64"], unfollowed := true, recurses := true, apart := false }
def IntrinsicTellsSaid : Prop := intrinsicTellsRow.holds Try.pinned (OpenSpec.ofChange intrinsicTellsSpec)

/-- ITS FALSE NEIGHBOUR: 'it returns false'. Refute it at one input. -/
def intrinsicTellsWrong : ChangeSpec := { name := "intrinsicTells", fn := fun _ => fun
  | [d] => { results := [.lit (.bool false)], args := [d] }
  | _ => none }
def IntrinsicTellsWrongFalsely : Prop := intrinsicTellsRow.holds Try.pinned (OpenSpec.ofChange intrinsicTellsWrong)

/-- 'stickfullaw21.IntrinsicCuts': WHATEVER THE INPUT: true; the input reads as it did. -/
def intrinsicCutsSpec : ChangeSpec := { name := "intrinsicCuts", fn := fun _ => fun
  | [d] => { results := [.lit (.bool true)], args := [d] }
  | _ => none }
def intrinsicCutsRow : OpenClaim := { program := "ytkcmehijmgjgfaa", sum := "bb9cb087ac1a203255bd8e5de366cb5f1b6d69d3bb833b3dc34dd8894bbc4495", func := "stickful/stickfullaw21.IntrinsicCuts", spec := "intrinsicCuts", inPlace := ["math/bits.Add64"], unfollowed := true, recurses := true, apart := false }
def IntrinsicCutsSaid : Prop := intrinsicCutsRow.holds Try.pinned (OpenSpec.ofChange intrinsicCutsSpec)

/-- ITS FALSE NEIGHBOUR: 'it returns false'. Refute it at one input. -/
def intrinsicCutsWrong : ChangeSpec := { name := "intrinsicCuts", fn := fun _ => fun
  | [d] => { results := [.lit (.bool false)], args := [d] }
  | _ => none }
def IntrinsicCutsWrongFalsely : Prop := intrinsicCutsRow.holds Try.pinned (OpenSpec.ofChange intrinsicCutsWrong)

/-- 'stickfullaw14.FillLines': WHATEVER THE INPUT: true; the input reads as it did. -/
def fillLinesSpec : ChangeSpec := { name := "fillLines", fn := fun _ => fun
  | [d1, d2, d3] => { results := [.lit (.bool true)], args := [d1, d2, d3] }
  | _ => none }
def fillLinesRow : OpenClaim := { program := "ytkcmehijmgjgfaa", sum := "bb9cb087ac1a203255bd8e5de366cb5f1b6d69d3bb833b3dc34dd8894bbc4495", func := "stickful/stickfullaw14.FillLines", spec := "fillLines", inPlace := ["math/bits.Add64"], unfollowed := true, recurses := true, apart := false }
def FillLinesSaid : Prop := fillLinesRow.holds Try.pinned (OpenSpec.ofChange fillLinesSpec)

/-- ITS FALSE NEIGHBOUR: 'it returns false'. Refute it at one input. -/
def fillLinesWrong : ChangeSpec := { name := "fillLines", fn := fun _ => fun
  | [d1, d2, d3] => { results := [.lit (.bool false)], args := [d1, d2, d3] }
  | _ => none }
def FillLinesWrongFalsely : Prop := fillLinesRow.holds Try.pinned (OpenSpec.ofChange fillLinesWrong)

/-- 'stickfullaw14.FillCovers': WHATEVER THE INPUT: true; the input reads as it did. -/
def fillCoversSpec : ChangeSpec := { name := "fillCovers", fn := fun _ => fun
  | [d1, d2, d3] => { results := [.lit (.bool true)], args := [d1, d2, d3] }
  | _ => none }
def fillCoversRow : OpenClaim := { program := "ytkcmehijmgjgfaa", sum := "bb9cb087ac1a203255bd8e5de366cb5f1b6d69d3bb833b3dc34dd8894bbc4495", func := "stickful/stickfullaw14.FillCovers", spec := "fillCovers", inPlace := ["math/bits.Add64"], unfollowed := true, recurses := true, apart := false }
def FillCoversSaid : Prop := fillCoversRow.holds Try.pinned (OpenSpec.ofChange fillCoversSpec)

/-- ITS FALSE NEIGHBOUR: 'it returns false'. Refute it at one input. -/
def fillCoversWrong : ChangeSpec := { name := "fillCovers", fn := fun _ => fun
  | [d1, d2, d3] => { results := [.lit (.bool false)], args := [d1, d2, d3] }
  | _ => none }
def FillCoversWrongFalsely : Prop := fillCoversRow.holds Try.pinned (OpenSpec.ofChange fillCoversWrong)

/-- 'stickfullaw14.FillGreedy': WHATEVER THE INPUT: true; the input reads as it did. -/
def fillGreedySpec : ChangeSpec := { name := "fillGreedy", fn := fun _ => fun
  | [d1, d2, d3] => { results := [.lit (.bool true)], args := [d1, d2, d3] }
  | _ => none }
def fillGreedyRow : OpenClaim := { program := "ytkcmehijmgjgfaa", sum := "bb9cb087ac1a203255bd8e5de366cb5f1b6d69d3bb833b3dc34dd8894bbc4495", func := "stickful/stickfullaw14.FillGreedy", spec := "fillGreedy", inPlace := ["math/bits.Add64"], unfollowed := true, recurses := true, apart := false }
def FillGreedySaid : Prop := fillGreedyRow.holds Try.pinned (OpenSpec.ofChange fillGreedySpec)

/-- ITS FALSE NEIGHBOUR: 'it returns false'. Refute it at one input. -/
def fillGreedyWrong : ChangeSpec := { name := "fillGreedy", fn := fun _ => fun
  | [d1, d2, d3] => { results := [.lit (.bool false)], args := [d1, d2, d3] }
  | _ => none }
def FillGreedyWrongFalsely : Prop := fillGreedyRow.holds Try.pinned (OpenSpec.ofChange fillGreedyWrong)

/-- 'stickfullaw14.FillForced': WHATEVER THE INPUT: true; the input reads as it did. -/
def fillForcedSpec : ChangeSpec := { name := "fillForced", fn := fun _ => fun
  | [d1, d2, d3] => { results := [.lit (.bool true)], args := [d1, d2, d3] }
  | _ => none }
def fillForcedRow : OpenClaim := { program := "ytkcmehijmgjgfaa", sum := "bb9cb087ac1a203255bd8e5de366cb5f1b6d69d3bb833b3dc34dd8894bbc4495", func := "stickful/stickfullaw14.FillForced", spec := "fillForced", inPlace := ["math/bits.Add64"], unfollowed := true, recurses := true, apart := false }
def FillForcedSaid : Prop := fillForcedRow.holds Try.pinned (OpenSpec.ofChange fillForcedSpec)

/-- ITS FALSE NEIGHBOUR: 'it returns false'. Refute it at one input. -/
def fillForcedWrong : ChangeSpec := { name := "fillForced", fn := fun _ => fun
  | [d1, d2, d3] => { results := [.lit (.bool false)], args := [d1, d2, d3] }
  | _ => none }
def FillForcedWrongFalsely : Prop := fillForcedRow.holds Try.pinned (OpenSpec.ofChange fillForcedWrong)

/-- 'stickfullaw14.FillEven': WHATEVER THE INPUT: true; the input reads as it did. -/
def fillEvenSpec : ChangeSpec := { name := "fillEven", fn := fun _ => fun
  | [d] => { results := [.lit (.bool true)], args := [d] }
  | _ => none }
def fillEvenRow : OpenClaim := { program := "ytkcmehijmgjgfaa", sum := "bb9cb087ac1a203255bd8e5de366cb5f1b6d69d3bb833b3dc34dd8894bbc4495", func := "stickful/stickfullaw14.FillEven", spec := "fillEven", inPlace := ["math/bits.Add64"], unfollowed := true, recurses := true, apart := false }
def FillEvenSaid : Prop := fillEvenRow.holds Try.pinned (OpenSpec.ofChange fillEvenSpec)

/-- ITS FALSE NEIGHBOUR: 'it returns false'. Refute it at one input. -/
def fillEvenWrong : ChangeSpec := { name := "fillEven", fn := fun _ => fun
  | [d] => { results := [.lit (.bool false)], args := [d] }
  | _ => none }
def FillEvenWrongFalsely : Prop := fillEvenRow.holds Try.pinned (OpenSpec.ofChange fillEvenWrong)

/-- 'stickfullaw26.EllipsisTells': WHATEVER THE INPUT: true; the input reads as it did. -/
def ellipsisTellsSpec : ChangeSpec := { name := "ellipsisTells", fn := fun _ => fun
  | [d1, d2] => { results := [.lit (.bool true)], args := [d1, d2] }
  | _ => none }
def ellipsisTellsRow : OpenClaim := { program := "ytkcmehijmgjgfaa", sum := "bb9cb087ac1a203255bd8e5de366cb5f1b6d69d3bb833b3dc34dd8894bbc4495", func := "stickful/stickfullaw26.EllipsisTells", spec := "ellipsisTells", inPlace := ["math/bits.Add64"], unfollowed := true, recurses := true, apart := false }
def EllipsisTellsSaid : Prop := ellipsisTellsRow.holds Try.pinned (OpenSpec.ofChange ellipsisTellsSpec)

/-- ITS FALSE NEIGHBOUR: 'it returns false'. Refute it at one input. -/
def ellipsisTellsWrong : ChangeSpec := { name := "ellipsisTells", fn := fun _ => fun
  | [d1, d2] => { results := [.lit (.bool false)], args := [d1, d2] }
  | _ => none }
def EllipsisTellsWrongFalsely : Prop := ellipsisTellsRow.holds Try.pinned (OpenSpec.ofChange ellipsisTellsWrong)

/-- 'stickfullaw26.EllipsisWhole': WHATEVER THE INPUT: true; the input reads as it did. -/
def ellipsisWholeSpec : ChangeSpec := { name := "ellipsisWhole", fn := fun _ => fun
  | [d1, d2] => { results := [.lit (.bool true)], args := [d1, d2] }
  | _ => none }
def ellipsisWholeRow : OpenClaim := { program := "ytkcmehijmgjgfaa", sum := "bb9cb087ac1a203255bd8e5de366cb5f1b6d69d3bb833b3dc34dd8894bbc4495", func := "stickful/stickfullaw26.EllipsisWhole", spec := "ellipsisWhole", inPlace := ["math/bits.Add64"], unfollowed := true, recurses := true, apart := false }
def EllipsisWholeSaid : Prop := ellipsisWholeRow.holds Try.pinned (OpenSpec.ofChange ellipsisWholeSpec)

/-- ITS FALSE NEIGHBOUR: 'it returns false'. Refute it at one input. -/
def ellipsisWholeWrong : ChangeSpec := { name := "ellipsisWhole", fn := fun _ => fun
  | [d1, d2] => { results := [.lit (.bool false)], args := [d1, d2] }
  | _ => none }
def EllipsisWholeWrongFalsely : Prop := ellipsisWholeRow.holds Try.pinned (OpenSpec.ofChange ellipsisWholeWrong)

/-- 'stickfullaw26.EllipsisGrows': WHATEVER THE INPUT: true; the input reads as it did. -/
def ellipsisGrowsSpec : ChangeSpec := { name := "ellipsisGrows", fn := fun _ => fun
  | [d1, d2, d3] => { results := [.lit (.bool true)], args := [d1, d2, d3] }
  | _ => none }
def ellipsisGrowsRow : OpenClaim := { program := "ytkcmehijmgjgfaa", sum := "bb9cb087ac1a203255bd8e5de366cb5f1b6d69d3bb833b3dc34dd8894bbc4495", func := "stickful/stickfullaw26.EllipsisGrows", spec := "ellipsisGrows", inPlace := ["math/bits.Add64"], unfollowed := true, recurses := true, apart := false }
def EllipsisGrowsSaid : Prop := ellipsisGrowsRow.holds Try.pinned (OpenSpec.ofChange ellipsisGrowsSpec)

/-- ITS FALSE NEIGHBOUR: 'it returns false'. Refute it at one input. -/
def ellipsisGrowsWrong : ChangeSpec := { name := "ellipsisGrows", fn := fun _ => fun
  | [d1, d2, d3] => { results := [.lit (.bool false)], args := [d1, d2, d3] }
  | _ => none }
def EllipsisGrowsWrongFalsely : Prop := ellipsisGrowsRow.holds Try.pinned (OpenSpec.ofChange ellipsisGrowsWrong)

/- THE SECOND FORM. 'bulk': how many values and letters a reading holds, each counted each time it is reached (what is shared counts as often as it is met; a slice's spare places count too). A statement '..UptoSaid' is the law's where the arguments, and the package variables that the reading takes, are together of bulk at most 1048576: NARROWER than '..Said'. Prove '..Said' where nothing that the law and all that it calls make is longer than what came in: it says more and counts as full. Else prove '..UptoSaid'. A law counts once. -/
mutual
def uptoBulk {H : Type} : DataW H → Nat
  | .lit (.string bytes) => bytes.length + 1
  | .lit _ => 1
  | .nil => 1
  | .ptr d => uptoBulk d + 1
  | .slice elems spare => uptoBulkAll elems + uptoBulkAll spare + 1
  | .agg parts => uptoBulkAll parts + 1
  | .iface _ d => uptoBulk d + 1
  | .map entries => uptoBulkEntries entries + 1
  | .held _ => 1
def uptoBulkAll {H : Type} : List (DataW H) → Nat
  | [] => 0
  | d :: r => uptoBulk d + uptoBulkAll r
def uptoBulkEntries {H : Type} : List (Lit × DataW H) → Nat
  | [] => 0
  | x :: r => uptoBulkEntry x + uptoBulkEntries r
def uptoBulkEntry {H : Type} : Lit × DataW H → Nat
  | (.string bytes, d) => bytes.length + uptoBulk d + 1
  | (_, d) => uptoBulk d + 1
 end
def uptoSmall : (H : Type) → List (DataW H) → Bool := fun _ ds => decide (uptoBulkAll ds ≤ 1048576)
def OpenSpec.upto (s : _root_.Go.ChangeSpec) : _root_.Go.OpenSpec := { _root_.Go.OpenSpec.ofChange s with cond := some uptoSmall }

/-- 'stickfullaw13.TrimBounds', WHERE WHAT IT READS IS OF BULK AT MOST 1048576: true; the input reads as it did. -/
def trimBoundsUptoRow : OpenClaim := { program := "ytkcmehijmgjgfaa", sum := "bb9cb087ac1a203255bd8e5de366cb5f1b6d69d3bb833b3dc34dd8894bbc4495", func := "stickful/stickfullaw13.TrimBounds", spec := "trimBounds", inPlace := ["math/bits.Add64"], unfollowed := true, recurses := true, apart := false, narrowed := true }
def TrimBoundsUptoSaid : Prop := trimBoundsUptoRow.holds Try.pinned (OpenSpec.upto trimBoundsSpec)

/-- 'stickfullaw21.IntrinsicGrows', WHERE WHAT IT READS IS OF BULK AT MOST 1048576: true; the input reads as it did. -/
def intrinsicGrowsUptoRow : OpenClaim := { program := "ytkcmehijmgjgfaa", sum := "bb9cb087ac1a203255bd8e5de366cb5f1b6d69d3bb833b3dc34dd8894bbc4495", func := "stickful/stickfullaw21.IntrinsicGrows", spec := "intrinsicGrows", inPlace := ["math/bits.Add64"], unfollowed := true, recurses := true, apart := false, narrowed := true }
def IntrinsicGrowsUptoSaid : Prop := intrinsicGrowsUptoRow.holds Try.pinned (OpenSpec.upto intrinsicGrowsSpec)

/-- 'stickfullaw21.IntrinsicSofter', WHERE WHAT IT READS IS OF BULK AT MOST 1048576: true; the input reads as it did. -/
def intrinsicSofterUptoRow : OpenClaim := { program := "ytkcmehijmgjgfaa", sum := "bb9cb087ac1a203255bd8e5de366cb5f1b6d69d3bb833b3dc34dd8894bbc4495", func := "stickful/stickfullaw21.IntrinsicSofter", spec := "intrinsicSofter", inPlace := ["math/bits.Add64"], unfollowed := true, recurses := true, apart := false, narrowed := true }
def IntrinsicSofterUptoSaid : Prop := intrinsicSofterUptoRow.holds Try.pinned (OpenSpec.upto intrinsicSofterSpec)

/-- 'stickfullaw21.IntrinsicTells', WHERE WHAT IT READS IS OF BULK AT MOST 1048576: true; the input reads as it did. -/
def intrinsicTellsUptoRow : OpenClaim := { program := "ytkcmehijmgjgfaa", sum := "bb9cb087ac1a203255bd8e5de366cb5f1b6d69d3bb833b3dc34dd8894bbc4495", func := "stickful/stickfullaw21.IntrinsicTells", spec := "intrinsicTells", inPlace := ["math/bits.Add64"], unfollowed := true, recurses := true, apart := false, narrowed := true }
def IntrinsicTellsUptoSaid : Prop := intrinsicTellsUptoRow.holds Try.pinned (OpenSpec.upto intrinsicTellsSpec)

/-- 'stickfullaw21.IntrinsicCuts', WHERE WHAT IT READS IS OF BULK AT MOST 1048576: true; the input reads as it did. -/
def intrinsicCutsUptoRow : OpenClaim := { program := "ytkcmehijmgjgfaa", sum := "bb9cb087ac1a203255bd8e5de366cb5f1b6d69d3bb833b3dc34dd8894bbc4495", func := "stickful/stickfullaw21.IntrinsicCuts", spec := "intrinsicCuts", inPlace := ["math/bits.Add64"], unfollowed := true, recurses := true, apart := false, narrowed := true }
def IntrinsicCutsUptoSaid : Prop := intrinsicCutsUptoRow.holds Try.pinned (OpenSpec.upto intrinsicCutsSpec)

/-- 'stickfullaw14.FillLines', WHERE WHAT IT READS IS OF BULK AT MOST 1048576: true; the input reads as it did. -/
def fillLinesUptoRow : OpenClaim := { program := "ytkcmehijmgjgfaa", sum := "bb9cb087ac1a203255bd8e5de366cb5f1b6d69d3bb833b3dc34dd8894bbc4495", func := "stickful/stickfullaw14.FillLines", spec := "fillLines", inPlace := ["math/bits.Add64"], unfollowed := true, recurses := true, apart := false, narrowed := true }
def FillLinesUptoSaid : Prop := fillLinesUptoRow.holds Try.pinned (OpenSpec.upto fillLinesSpec)

/-- 'stickfullaw14.FillCovers', WHERE WHAT IT READS IS OF BULK AT MOST 1048576: true; the input reads as it did. -/
def fillCoversUptoRow : OpenClaim := { program := "ytkcmehijmgjgfaa", sum := "bb9cb087ac1a203255bd8e5de366cb5f1b6d69d3bb833b3dc34dd8894bbc4495", func := "stickful/stickfullaw14.FillCovers", spec := "fillCovers", inPlace := ["math/bits.Add64"], unfollowed := true, recurses := true, apart := false, narrowed := true }
def FillCoversUptoSaid : Prop := fillCoversUptoRow.holds Try.pinned (OpenSpec.upto fillCoversSpec)

/-- 'stickfullaw14.FillGreedy', WHERE WHAT IT READS IS OF BULK AT MOST 1048576: true; the input reads as it did. -/
def fillGreedyUptoRow : OpenClaim := { program := "ytkcmehijmgjgfaa", sum := "bb9cb087ac1a203255bd8e5de366cb5f1b6d69d3bb833b3dc34dd8894bbc4495", func := "stickful/stickfullaw14.FillGreedy", spec := "fillGreedy", inPlace := ["math/bits.Add64"], unfollowed := true, recurses := true, apart := false, narrowed := true }
def FillGreedyUptoSaid : Prop := fillGreedyUptoRow.holds Try.pinned (OpenSpec.upto fillGreedySpec)

/-- 'stickfullaw14.FillForced', WHERE WHAT IT READS IS OF BULK AT MOST 1048576: true; the input reads as it did. -/
def fillForcedUptoRow : OpenClaim := { program := "ytkcmehijmgjgfaa", sum := "bb9cb087ac1a203255bd8e5de366cb5f1b6d69d3bb833b3dc34dd8894bbc4495", func := "stickful/stickfullaw14.FillForced", spec := "fillForced", inPlace := ["math/bits.Add64"], unfollowed := true, recurses := true, apart := false, narrowed := true }
def FillForcedUptoSaid : Prop := fillForcedUptoRow.holds Try.pinned (OpenSpec.upto fillForcedSpec)

/-- 'stickfullaw14.FillEven', WHERE WHAT IT READS IS OF BULK AT MOST 1048576: true; the input reads as it did. -/
def fillEvenUptoRow : OpenClaim := { program := "ytkcmehijmgjgfaa", sum := "bb9cb087ac1a203255bd8e5de366cb5f1b6d69d3bb833b3dc34dd8894bbc4495", func := "stickful/stickfullaw14.FillEven", spec := "fillEven", inPlace := ["math/bits.Add64"], unfollowed := true, recurses := true, apart := false, narrowed := true }
def FillEvenUptoSaid : Prop := fillEvenUptoRow.holds Try.pinned (OpenSpec.upto fillEvenSpec)

/-- 'stickfullaw26.EllipsisTells', WHERE WHAT IT READS IS OF BULK AT MOST 1048576: true; the input reads as it did. -/
def ellipsisTellsUptoRow : OpenClaim := { program := "ytkcmehijmgjgfaa", sum := "bb9cb087ac1a203255bd8e5de366cb5f1b6d69d3bb833b3dc34dd8894bbc4495", func := "stickful/stickfullaw26.EllipsisTells", spec := "ellipsisTells", inPlace := ["math/bits.Add64"], unfollowed := true, recurses := true, apart := false, narrowed := true }
def EllipsisTellsUptoSaid : Prop := ellipsisTellsUptoRow.holds Try.pinned (OpenSpec.upto ellipsisTellsSpec)

/-- 'stickfullaw26.EllipsisWhole', WHERE WHAT IT READS IS OF BULK AT MOST 1048576: true; the input reads as it did. -/
def ellipsisWholeUptoRow : OpenClaim := { program := "ytkcmehijmgjgfaa", sum := "bb9cb087ac1a203255bd8e5de366cb5f1b6d69d3bb833b3dc34dd8894bbc4495", func := "stickful/stickfullaw26.EllipsisWhole", spec := "ellipsisWhole", inPlace := ["math/bits.Add64"], unfollowed := true, recurses := true, apart := false, narrowed := true }
def EllipsisWholeUptoSaid : Prop := ellipsisWholeUptoRow.holds Try.pinned (OpenSpec.upto ellipsisWholeSpec)

/-- 'stickfullaw26.EllipsisGrows', WHERE WHAT IT READS IS OF BULK AT MOST 1048576: true; the input reads as it did. -/
def ellipsisGrowsUptoRow : OpenClaim := { program := "ytkcmehijmgjgfaa", sum := "bb9cb087ac1a203255bd8e5de366cb5f1b6d69d3bb833b3dc34dd8894bbc4495", func := "stickful/stickfullaw26.EllipsisGrows", spec := "ellipsisGrows", inPlace := ["math/bits.Add64"], unfollowed := true, recurses := true, apart := false, narrowed := true }
def EllipsisGrowsUptoSaid : Prop := ellipsisGrowsUptoRow.holds Try.pinned (OpenSpec.upto ellipsisGrowsSpec)

end Rows
end Go.Proofs.Ytkcmehijmgjgfaa
