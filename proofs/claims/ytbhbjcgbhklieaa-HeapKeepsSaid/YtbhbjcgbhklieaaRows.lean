/-
  No cell of these rows narrows 'for every input' (looked for: loops, veiled, ifaces, maps, wideKeys, modest, calm, conditions, laid).
  DERIVED. THE GIVEN ROWS OF THIS SEAT. 13 by the template 'for every input the law returns true; each argument reads behind the call as it read before'; 0 by the template 'total and deterministic' (their statements: YtbhbjcgbhklieaaTotals.lean).
  GIVEN WITH THE SEED: the statements are not yours to turn. If you find one false, say at which input.
  Laid BY PROGRAM, IN A SANDBOX (cutbox-rows.mjs): the forced cells as the released guide's own fill.sh prints them over the translation db65d519fe1d686a… (all of the seat's roots in one cut). By AI agents, Wed Nov 11 2026. No macro, syntax, notation, axiom, sorry.
-/
import Derived.Test.YtbhbjcgbhklieaaChecked
import GoSem.Claim
import GoSem.ClaimJoined
import GoSem.ClaimMapViews
import Derived.JoinedTies
import Derived.KernelRfl
namespace Go.Proofs.Ytbhbjcgbhklieaa
/- THE CELL 'sum', in the pinned program and in every row, IS THE sha256 OF THE DUMP (.gsa) THAT YtbhbjcgbhklieaaProg.lean LOADS. Nothing in Lean hashes anything: it is a label: what it is worth is what the hold of that sum in a sandbox is worth. -/
noncomputable def Try.pinned : Pinned := { name := "ytbhbjcgbhklieaa", sum := "db65d519fe1d686a7f343e79c0ff2aaf1988ba03bc37e6cb78e30ad75f56a7ff", checked := Try.checked }
namespace Rows
def none {H : Type} : Left H := { results := [], args := [] }

/-- 'candlinglaw06.HeapQuarantine': WHATEVER THE INPUT: true; the input reads as it did. -/
def heapQuarantineSpec : ChangeSpec := { name := "heapQuarantine", fn := fun _ => fun
  | [d1, d2, d3] => { results := [.lit (.bool true)], args := [d1, d2, d3] }
  | _ => none }
def heapQuarantineRow : OpenClaim := { program := "ytbhbjcgbhklieaa", sum := "db65d519fe1d686a7f343e79c0ff2aaf1988ba03bc37e6cb78e30ad75f56a7ff", func := "candling/candlinglaw06.HeapQuarantine", spec := "heapQuarantine", inPlace := ["slices.overlaps[candling/api.Piece]"], unfollowed := true, recurses := true, apart := false }
def HeapQuarantineSaid : Prop := heapQuarantineRow.holds Try.pinned (OpenSpec.ofChange heapQuarantineSpec)

/-- ITS FALSE NEIGHBOUR: 'it returns false'. Refute it at one input. -/
def heapQuarantineWrong : ChangeSpec := { name := "heapQuarantine", fn := fun _ => fun
  | [d1, d2, d3] => { results := [.lit (.bool false)], args := [d1, d2, d3] }
  | _ => none }
def HeapQuarantineWrongFalsely : Prop := heapQuarantineRow.holds Try.pinned (OpenSpec.ofChange heapQuarantineWrong)

/-- 'candlinglaw06.HeapPlaces': WHATEVER THE INPUT: true; the input reads as it did. -/
def heapPlacesSpec : ChangeSpec := { name := "heapPlaces", fn := fun _ => fun
  | [d1, d2] => { results := [.lit (.bool true)], args := [d1, d2] }
  | _ => none }
def heapPlacesRow : OpenClaim := { program := "ytbhbjcgbhklieaa", sum := "db65d519fe1d686a7f343e79c0ff2aaf1988ba03bc37e6cb78e30ad75f56a7ff", func := "candling/candlinglaw06.HeapPlaces", spec := "heapPlaces", inPlace := ["slices.overlaps[candling/api.Piece]"], unfollowed := true, recurses := true, apart := false }
def HeapPlacesSaid : Prop := heapPlacesRow.holds Try.pinned (OpenSpec.ofChange heapPlacesSpec)

/-- ITS FALSE NEIGHBOUR: 'it returns false'. Refute it at one input. -/
def heapPlacesWrong : ChangeSpec := { name := "heapPlaces", fn := fun _ => fun
  | [d1, d2] => { results := [.lit (.bool false)], args := [d1, d2] }
  | _ => none }
def HeapPlacesWrongFalsely : Prop := heapPlacesRow.holds Try.pinned (OpenSpec.ofChange heapPlacesWrong)

/-- 'candlinglaw06.HeapUndone': WHATEVER THE INPUT: true; the input reads as it did. -/
def heapUndoneSpec : ChangeSpec := { name := "heapUndone", fn := fun _ => fun
  | [d1, d2] => { results := [.lit (.bool true)], args := [d1, d2] }
  | _ => none }
def heapUndoneRow : OpenClaim := { program := "ytbhbjcgbhklieaa", sum := "db65d519fe1d686a7f343e79c0ff2aaf1988ba03bc37e6cb78e30ad75f56a7ff", func := "candling/candlinglaw06.HeapUndone", spec := "heapUndone", inPlace := ["slices.overlaps[candling/api.Piece]"], unfollowed := true, recurses := true, apart := false }
def HeapUndoneSaid : Prop := heapUndoneRow.holds Try.pinned (OpenSpec.ofChange heapUndoneSpec)

/-- ITS FALSE NEIGHBOUR: 'it returns false'. Refute it at one input. -/
def heapUndoneWrong : ChangeSpec := { name := "heapUndone", fn := fun _ => fun
  | [d1, d2] => { results := [.lit (.bool false)], args := [d1, d2] }
  | _ => none }
def HeapUndoneWrongFalsely : Prop := heapUndoneRow.holds Try.pinned (OpenSpec.ofChange heapUndoneWrong)

/-- 'candlinglaw06.HeapNumbers': WHATEVER THE INPUT: true; the input reads as it did. -/
def heapNumbersSpec : ChangeSpec := { name := "heapNumbers", fn := fun _ => fun
  | [d1, d2] => { results := [.lit (.bool true)], args := [d1, d2] }
  | _ => none }
def heapNumbersRow : OpenClaim := { program := "ytbhbjcgbhklieaa", sum := "db65d519fe1d686a7f343e79c0ff2aaf1988ba03bc37e6cb78e30ad75f56a7ff", func := "candling/candlinglaw06.HeapNumbers", spec := "heapNumbers", inPlace := ["slices.overlaps[candling/api.Piece]"], unfollowed := true, recurses := true, apart := false }
def HeapNumbersSaid : Prop := heapNumbersRow.holds Try.pinned (OpenSpec.ofChange heapNumbersSpec)

/-- ITS FALSE NEIGHBOUR: 'it returns false'. Refute it at one input. -/
def heapNumbersWrong : ChangeSpec := { name := "heapNumbers", fn := fun _ => fun
  | [d1, d2] => { results := [.lit (.bool false)], args := [d1, d2] }
  | _ => none }
def HeapNumbersWrongFalsely : Prop := heapNumbersRow.holds Try.pinned (OpenSpec.ofChange heapNumbersWrong)

/-- 'candlinglaw06.HeapChecks': WHATEVER THE INPUT: true; the input reads as it did. -/
def heapChecksSpec : ChangeSpec := { name := "heapChecks", fn := fun _ => fun
  | [d1, d2, d3] => { results := [.lit (.bool true)], args := [d1, d2, d3] }
  | _ => none }
def heapChecksRow : OpenClaim := { program := "ytbhbjcgbhklieaa", sum := "db65d519fe1d686a7f343e79c0ff2aaf1988ba03bc37e6cb78e30ad75f56a7ff", func := "candling/candlinglaw06.HeapChecks", spec := "heapChecks", inPlace := ["slices.overlaps[candling/api.Piece]"], unfollowed := true, recurses := true, apart := false }
def HeapChecksSaid : Prop := heapChecksRow.holds Try.pinned (OpenSpec.ofChange heapChecksSpec)

/-- ITS FALSE NEIGHBOUR: 'it returns false'. Refute it at one input. -/
def heapChecksWrong : ChangeSpec := { name := "heapChecks", fn := fun _ => fun
  | [d1, d2, d3] => { results := [.lit (.bool false)], args := [d1, d2, d3] }
  | _ => none }
def HeapChecksWrongFalsely : Prop := heapChecksRow.holds Try.pinned (OpenSpec.ofChange heapChecksWrong)

/-- 'candlinglaw06.HeapFinds': WHATEVER THE INPUT: true; the input reads as it did. -/
def heapFindsSpec : ChangeSpec := { name := "heapFinds", fn := fun _ => fun
  | [d1, d2, d3] => { results := [.lit (.bool true)], args := [d1, d2, d3] }
  | _ => none }
def heapFindsRow : OpenClaim := { program := "ytbhbjcgbhklieaa", sum := "db65d519fe1d686a7f343e79c0ff2aaf1988ba03bc37e6cb78e30ad75f56a7ff", func := "candling/candlinglaw06.HeapFinds", spec := "heapFinds", inPlace := ["slices.overlaps[candling/api.Piece]"], unfollowed := true, recurses := true, apart := false }
def HeapFindsSaid : Prop := heapFindsRow.holds Try.pinned (OpenSpec.ofChange heapFindsSpec)

/-- ITS FALSE NEIGHBOUR: 'it returns false'. Refute it at one input. -/
def heapFindsWrong : ChangeSpec := { name := "heapFinds", fn := fun _ => fun
  | [d1, d2, d3] => { results := [.lit (.bool false)], args := [d1, d2, d3] }
  | _ => none }
def HeapFindsWrongFalsely : Prop := heapFindsRow.holds Try.pinned (OpenSpec.ofChange heapFindsWrong)

/-- 'candlinglaw06.HeapFirst': WHATEVER THE INPUT: true; the input reads as it did. -/
def heapFirstSpec : ChangeSpec := { name := "heapFirst", fn := fun _ => fun
  | [d1, d2] => { results := [.lit (.bool true)], args := [d1, d2] }
  | _ => none }
def heapFirstRow : OpenClaim := { program := "ytbhbjcgbhklieaa", sum := "db65d519fe1d686a7f343e79c0ff2aaf1988ba03bc37e6cb78e30ad75f56a7ff", func := "candling/candlinglaw06.HeapFirst", spec := "heapFirst", inPlace := ["slices.overlaps[candling/api.Piece]"], unfollowed := true, recurses := true, apart := false }
def HeapFirstSaid : Prop := heapFirstRow.holds Try.pinned (OpenSpec.ofChange heapFirstSpec)

/-- ITS FALSE NEIGHBOUR: 'it returns false'. Refute it at one input. -/
def heapFirstWrong : ChangeSpec := { name := "heapFirst", fn := fun _ => fun
  | [d1, d2] => { results := [.lit (.bool false)], args := [d1, d2] }
  | _ => none }
def HeapFirstWrongFalsely : Prop := heapFirstRow.holds Try.pinned (OpenSpec.ofChange heapFirstWrong)

/-- 'candlinglaw06.HeapOrder': WHATEVER THE INPUT: true; the input reads as it did. -/
def heapOrderSpec : ChangeSpec := { name := "heapOrder", fn := fun _ => fun
  | [d1, d2] => { results := [.lit (.bool true)], args := [d1, d2] }
  | _ => none }
def heapOrderRow : OpenClaim := { program := "ytbhbjcgbhklieaa", sum := "db65d519fe1d686a7f343e79c0ff2aaf1988ba03bc37e6cb78e30ad75f56a7ff", func := "candling/candlinglaw06.HeapOrder", spec := "heapOrder", inPlace := ["slices.overlaps[candling/api.Piece]"], unfollowed := true, recurses := true, apart := false }
def HeapOrderSaid : Prop := heapOrderRow.holds Try.pinned (OpenSpec.ofChange heapOrderSpec)

/-- ITS FALSE NEIGHBOUR: 'it returns false'. Refute it at one input. -/
def heapOrderWrong : ChangeSpec := { name := "heapOrder", fn := fun _ => fun
  | [d1, d2] => { results := [.lit (.bool false)], args := [d1, d2] }
  | _ => none }
def HeapOrderWrongFalsely : Prop := heapOrderRow.holds Try.pinned (OpenSpec.ofChange heapOrderWrong)

/-- 'candlinglaw06.HeapAllocs': WHATEVER THE INPUT: true; the input reads as it did. -/
def heapAllocsSpec : ChangeSpec := { name := "heapAllocs", fn := fun _ => fun
  | [d1, d2] => { results := [.lit (.bool true)], args := [d1, d2] }
  | _ => none }
def heapAllocsRow : OpenClaim := { program := "ytbhbjcgbhklieaa", sum := "db65d519fe1d686a7f343e79c0ff2aaf1988ba03bc37e6cb78e30ad75f56a7ff", func := "candling/candlinglaw06.HeapAllocs", spec := "heapAllocs", inPlace := ["slices.overlaps[candling/api.Piece]"], unfollowed := true, recurses := true, apart := false }
def HeapAllocsSaid : Prop := heapAllocsRow.holds Try.pinned (OpenSpec.ofChange heapAllocsSpec)

/-- ITS FALSE NEIGHBOUR: 'it returns false'. Refute it at one input. -/
def heapAllocsWrong : ChangeSpec := { name := "heapAllocs", fn := fun _ => fun
  | [d1, d2] => { results := [.lit (.bool false)], args := [d1, d2] }
  | _ => none }
def HeapAllocsWrongFalsely : Prop := heapAllocsRow.holds Try.pinned (OpenSpec.ofChange heapAllocsWrong)

/-- 'candlinglaw06.HeapApart': WHATEVER THE INPUT: true; the input reads as it did. -/
def heapApartSpec : ChangeSpec := { name := "heapApart", fn := fun _ => fun
  | [d1, d2] => { results := [.lit (.bool true)], args := [d1, d2] }
  | _ => none }
def heapApartRow : OpenClaim := { program := "ytbhbjcgbhklieaa", sum := "db65d519fe1d686a7f343e79c0ff2aaf1988ba03bc37e6cb78e30ad75f56a7ff", func := "candling/candlinglaw06.HeapApart", spec := "heapApart", inPlace := ["slices.overlaps[candling/api.Piece]"], unfollowed := true, recurses := true, apart := false }
def HeapApartSaid : Prop := heapApartRow.holds Try.pinned (OpenSpec.ofChange heapApartSpec)

/-- ITS FALSE NEIGHBOUR: 'it returns false'. Refute it at one input. -/
def heapApartWrong : ChangeSpec := { name := "heapApart", fn := fun _ => fun
  | [d1, d2] => { results := [.lit (.bool false)], args := [d1, d2] }
  | _ => none }
def HeapApartWrongFalsely : Prop := heapApartRow.holds Try.pinned (OpenSpec.ofChange heapApartWrong)

/-- 'candlinglaw06.HeapKeeps': WHATEVER THE INPUT: true; the input reads as it did. -/
def heapKeepsSpec : ChangeSpec := { name := "heapKeeps", fn := fun _ => fun
  | [d1, d2] => { results := [.lit (.bool true)], args := [d1, d2] }
  | _ => none }
def heapKeepsRow : OpenClaim := { program := "ytbhbjcgbhklieaa", sum := "db65d519fe1d686a7f343e79c0ff2aaf1988ba03bc37e6cb78e30ad75f56a7ff", func := "candling/candlinglaw06.HeapKeeps", spec := "heapKeeps", inPlace := ["slices.overlaps[candling/api.Piece]"], unfollowed := true, recurses := true, apart := false }
def HeapKeepsSaid : Prop := heapKeepsRow.holds Try.pinned (OpenSpec.ofChange heapKeepsSpec)

/-- ITS FALSE NEIGHBOUR: 'it returns false'. Refute it at one input. -/
def heapKeepsWrong : ChangeSpec := { name := "heapKeeps", fn := fun _ => fun
  | [d1, d2] => { results := [.lit (.bool false)], args := [d1, d2] }
  | _ => none }
def HeapKeepsWrongFalsely : Prop := heapKeepsRow.holds Try.pinned (OpenSpec.ofChange heapKeepsWrong)

/-- 'candlinglaw06.HeapResizes': WHATEVER THE INPUT: true; the input reads as it did. -/
def heapResizesSpec : ChangeSpec := { name := "heapResizes", fn := fun _ => fun
  | [d1, d2] => { results := [.lit (.bool true)], args := [d1, d2] }
  | _ => none }
def heapResizesRow : OpenClaim := { program := "ytbhbjcgbhklieaa", sum := "db65d519fe1d686a7f343e79c0ff2aaf1988ba03bc37e6cb78e30ad75f56a7ff", func := "candling/candlinglaw06.HeapResizes", spec := "heapResizes", inPlace := ["slices.overlaps[candling/api.Piece]"], unfollowed := true, recurses := true, apart := false }
def HeapResizesSaid : Prop := heapResizesRow.holds Try.pinned (OpenSpec.ofChange heapResizesSpec)

/-- ITS FALSE NEIGHBOUR: 'it returns false'. Refute it at one input. -/
def heapResizesWrong : ChangeSpec := { name := "heapResizes", fn := fun _ => fun
  | [d1, d2] => { results := [.lit (.bool false)], args := [d1, d2] }
  | _ => none }
def HeapResizesWrongFalsely : Prop := heapResizesRow.holds Try.pinned (OpenSpec.ofChange heapResizesWrong)

/-- 'candlinglaw06.HeapMoved': WHATEVER THE INPUT: true; the input reads as it did. -/
def heapMovedSpec : ChangeSpec := { name := "heapMoved", fn := fun _ => fun
  | [d1, d2, d3] => { results := [.lit (.bool true)], args := [d1, d2, d3] }
  | _ => none }
def heapMovedRow : OpenClaim := { program := "ytbhbjcgbhklieaa", sum := "db65d519fe1d686a7f343e79c0ff2aaf1988ba03bc37e6cb78e30ad75f56a7ff", func := "candling/candlinglaw06.HeapMoved", spec := "heapMoved", inPlace := ["slices.overlaps[candling/api.Piece]"], unfollowed := true, recurses := true, apart := false }
def HeapMovedSaid : Prop := heapMovedRow.holds Try.pinned (OpenSpec.ofChange heapMovedSpec)

/-- ITS FALSE NEIGHBOUR: 'it returns false'. Refute it at one input. -/
def heapMovedWrong : ChangeSpec := { name := "heapMoved", fn := fun _ => fun
  | [d1, d2, d3] => { results := [.lit (.bool false)], args := [d1, d2, d3] }
  | _ => none }
def HeapMovedWrongFalsely : Prop := heapMovedRow.holds Try.pinned (OpenSpec.ofChange heapMovedWrong)

/- THE SECOND FORM. 'bulk': how many values and letters a reading holds, each counted each time it is reached (what is shared counts as often as it is met; a slice's spare places count too). A statement '..UptoSaid' is the law's where the arguments, and the package variables that the reading takes, are together of bulk at most 1048576: NARROWER than '..Said'. Prove '..Said' where nothing that the law and all that it calls make is longer than what came in: it says more and counts as full. Else prove '..UptoSaid'. A law counts once. -/
mutual
def uptoBulk {H : Type} : DataW H → Nat
  | .lit (.string bytes) => bytes.length + 1
  | .lit _ => 1
  | .nil => 1
  | .ptr d => uptoBulk d + 1
  | .slice elems spare => uptoBulkAll elems + uptoBulkAll spare + 1
  | .agg parts => uptoBulkAll parts + 1
  | .iface _ d => uptoBulk d + 1
  | .map entries => uptoBulkEntries entries + 1
  | .held _ => 1
def uptoBulkAll {H : Type} : List (DataW H) → Nat
  | [] => 0
  | d :: r => uptoBulk d + uptoBulkAll r
def uptoBulkEntries {H : Type} : List (Lit × DataW H) → Nat
  | [] => 0
  | x :: r => uptoBulkEntry x + uptoBulkEntries r
def uptoBulkEntry {H : Type} : Lit × DataW H → Nat
  | (.string bytes, d) => bytes.length + uptoBulk d + 1
  | (_, d) => uptoBulk d + 1
 end
def uptoSmall : (H : Type) → List (DataW H) → Bool := fun _ ds => decide (uptoBulkAll ds ≤ 1048576)
def OpenSpec.upto (s : _root_.Go.ChangeSpec) : _root_.Go.OpenSpec := { _root_.Go.OpenSpec.ofChange s with cond := some uptoSmall }

/-- 'candlinglaw06.HeapQuarantine', WHERE WHAT IT READS IS OF BULK AT MOST 1048576: true; the input reads as it did. -/
def heapQuarantineUptoRow : OpenClaim := { program := "ytbhbjcgbhklieaa", sum := "db65d519fe1d686a7f343e79c0ff2aaf1988ba03bc37e6cb78e30ad75f56a7ff", func := "candling/candlinglaw06.HeapQuarantine", spec := "heapQuarantine", inPlace := ["slices.overlaps[candling/api.Piece]"], unfollowed := true, recurses := true, apart := false, narrowed := true }
def HeapQuarantineUptoSaid : Prop := heapQuarantineUptoRow.holds Try.pinned (OpenSpec.upto heapQuarantineSpec)

/-- 'candlinglaw06.HeapPlaces', WHERE WHAT IT READS IS OF BULK AT MOST 1048576: true; the input reads as it did. -/
def heapPlacesUptoRow : OpenClaim := { program := "ytbhbjcgbhklieaa", sum := "db65d519fe1d686a7f343e79c0ff2aaf1988ba03bc37e6cb78e30ad75f56a7ff", func := "candling/candlinglaw06.HeapPlaces", spec := "heapPlaces", inPlace := ["slices.overlaps[candling/api.Piece]"], unfollowed := true, recurses := true, apart := false, narrowed := true }
def HeapPlacesUptoSaid : Prop := heapPlacesUptoRow.holds Try.pinned (OpenSpec.upto heapPlacesSpec)

/-- 'candlinglaw06.HeapUndone', WHERE WHAT IT READS IS OF BULK AT MOST 1048576: true; the input reads as it did. -/
def heapUndoneUptoRow : OpenClaim := { program := "ytbhbjcgbhklieaa", sum := "db65d519fe1d686a7f343e79c0ff2aaf1988ba03bc37e6cb78e30ad75f56a7ff", func := "candling/candlinglaw06.HeapUndone", spec := "heapUndone", inPlace := ["slices.overlaps[candling/api.Piece]"], unfollowed := true, recurses := true, apart := false, narrowed := true }
def HeapUndoneUptoSaid : Prop := heapUndoneUptoRow.holds Try.pinned (OpenSpec.upto heapUndoneSpec)

/-- 'candlinglaw06.HeapNumbers', WHERE WHAT IT READS IS OF BULK AT MOST 1048576: true; the input reads as it did. -/
def heapNumbersUptoRow : OpenClaim := { program := "ytbhbjcgbhklieaa", sum := "db65d519fe1d686a7f343e79c0ff2aaf1988ba03bc37e6cb78e30ad75f56a7ff", func := "candling/candlinglaw06.HeapNumbers", spec := "heapNumbers", inPlace := ["slices.overlaps[candling/api.Piece]"], unfollowed := true, recurses := true, apart := false, narrowed := true }
def HeapNumbersUptoSaid : Prop := heapNumbersUptoRow.holds Try.pinned (OpenSpec.upto heapNumbersSpec)

/-- 'candlinglaw06.HeapChecks', WHERE WHAT IT READS IS OF BULK AT MOST 1048576: true; the input reads as it did. -/
def heapChecksUptoRow : OpenClaim := { program := "ytbhbjcgbhklieaa", sum := "db65d519fe1d686a7f343e79c0ff2aaf1988ba03bc37e6cb78e30ad75f56a7ff", func := "candling/candlinglaw06.HeapChecks", spec := "heapChecks", inPlace := ["slices.overlaps[candling/api.Piece]"], unfollowed := true, recurses := true, apart := false, narrowed := true }
def HeapChecksUptoSaid : Prop := heapChecksUptoRow.holds Try.pinned (OpenSpec.upto heapChecksSpec)

/-- 'candlinglaw06.HeapFinds', WHERE WHAT IT READS IS OF BULK AT MOST 1048576: true; the input reads as it did. -/
def heapFindsUptoRow : OpenClaim := { program := "ytbhbjcgbhklieaa", sum := "db65d519fe1d686a7f343e79c0ff2aaf1988ba03bc37e6cb78e30ad75f56a7ff", func := "candling/candlinglaw06.HeapFinds", spec := "heapFinds", inPlace := ["slices.overlaps[candling/api.Piece]"], unfollowed := true, recurses := true, apart := false, narrowed := true }
def HeapFindsUptoSaid : Prop := heapFindsUptoRow.holds Try.pinned (OpenSpec.upto heapFindsSpec)

/-- 'candlinglaw06.HeapFirst', WHERE WHAT IT READS IS OF BULK AT MOST 1048576: true; the input reads as it did. -/
def heapFirstUptoRow : OpenClaim := { program := "ytbhbjcgbhklieaa", sum := "db65d519fe1d686a7f343e79c0ff2aaf1988ba03bc37e6cb78e30ad75f56a7ff", func := "candling/candlinglaw06.HeapFirst", spec := "heapFirst", inPlace := ["slices.overlaps[candling/api.Piece]"], unfollowed := true, recurses := true, apart := false, narrowed := true }
def HeapFirstUptoSaid : Prop := heapFirstUptoRow.holds Try.pinned (OpenSpec.upto heapFirstSpec)

/-- 'candlinglaw06.HeapOrder', WHERE WHAT IT READS IS OF BULK AT MOST 1048576: true; the input reads as it did. -/
def heapOrderUptoRow : OpenClaim := { program := "ytbhbjcgbhklieaa", sum := "db65d519fe1d686a7f343e79c0ff2aaf1988ba03bc37e6cb78e30ad75f56a7ff", func := "candling/candlinglaw06.HeapOrder", spec := "heapOrder", inPlace := ["slices.overlaps[candling/api.Piece]"], unfollowed := true, recurses := true, apart := false, narrowed := true }
def HeapOrderUptoSaid : Prop := heapOrderUptoRow.holds Try.pinned (OpenSpec.upto heapOrderSpec)

/-- 'candlinglaw06.HeapAllocs', WHERE WHAT IT READS IS OF BULK AT MOST 1048576: true; the input reads as it did. -/
def heapAllocsUptoRow : OpenClaim := { program := "ytbhbjcgbhklieaa", sum := "db65d519fe1d686a7f343e79c0ff2aaf1988ba03bc37e6cb78e30ad75f56a7ff", func := "candling/candlinglaw06.HeapAllocs", spec := "heapAllocs", inPlace := ["slices.overlaps[candling/api.Piece]"], unfollowed := true, recurses := true, apart := false, narrowed := true }
def HeapAllocsUptoSaid : Prop := heapAllocsUptoRow.holds Try.pinned (OpenSpec.upto heapAllocsSpec)

/-- 'candlinglaw06.HeapApart', WHERE WHAT IT READS IS OF BULK AT MOST 1048576: true; the input reads as it did. -/
def heapApartUptoRow : OpenClaim := { program := "ytbhbjcgbhklieaa", sum := "db65d519fe1d686a7f343e79c0ff2aaf1988ba03bc37e6cb78e30ad75f56a7ff", func := "candling/candlinglaw06.HeapApart", spec := "heapApart", inPlace := ["slices.overlaps[candling/api.Piece]"], unfollowed := true, recurses := true, apart := false, narrowed := true }
def HeapApartUptoSaid : Prop := heapApartUptoRow.holds Try.pinned (OpenSpec.upto heapApartSpec)

/-- 'candlinglaw06.HeapKeeps', WHERE WHAT IT READS IS OF BULK AT MOST 1048576: true; the input reads as it did. -/
def heapKeepsUptoRow : OpenClaim := { program := "ytbhbjcgbhklieaa", sum := "db65d519fe1d686a7f343e79c0ff2aaf1988ba03bc37e6cb78e30ad75f56a7ff", func := "candling/candlinglaw06.HeapKeeps", spec := "heapKeeps", inPlace := ["slices.overlaps[candling/api.Piece]"], unfollowed := true, recurses := true, apart := false, narrowed := true }
def HeapKeepsUptoSaid : Prop := heapKeepsUptoRow.holds Try.pinned (OpenSpec.upto heapKeepsSpec)

/-- 'candlinglaw06.HeapResizes', WHERE WHAT IT READS IS OF BULK AT MOST 1048576: true; the input reads as it did. -/
def heapResizesUptoRow : OpenClaim := { program := "ytbhbjcgbhklieaa", sum := "db65d519fe1d686a7f343e79c0ff2aaf1988ba03bc37e6cb78e30ad75f56a7ff", func := "candling/candlinglaw06.HeapResizes", spec := "heapResizes", inPlace := ["slices.overlaps[candling/api.Piece]"], unfollowed := true, recurses := true, apart := false, narrowed := true }
def HeapResizesUptoSaid : Prop := heapResizesUptoRow.holds Try.pinned (OpenSpec.upto heapResizesSpec)

/-- 'candlinglaw06.HeapMoved', WHERE WHAT IT READS IS OF BULK AT MOST 1048576: true; the input reads as it did. -/
def heapMovedUptoRow : OpenClaim := { program := "ytbhbjcgbhklieaa", sum := "db65d519fe1d686a7f343e79c0ff2aaf1988ba03bc37e6cb78e30ad75f56a7ff", func := "candling/candlinglaw06.HeapMoved", spec := "heapMoved", inPlace := ["slices.overlaps[candling/api.Piece]"], unfollowed := true, recurses := true, apart := false, narrowed := true }
def HeapMovedUptoSaid : Prop := heapMovedUptoRow.holds Try.pinned (OpenSpec.upto heapMovedSpec)

end Rows
end Go.Proofs.Ytbhbjcgbhklieaa
