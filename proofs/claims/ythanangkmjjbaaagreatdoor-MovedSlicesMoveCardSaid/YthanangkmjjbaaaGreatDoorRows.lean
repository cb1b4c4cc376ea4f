/-
  NARROWER THAN 'FOR EVERY INPUT', by the rows' own cells (each row's printed sentence says how): MovedSlicesMove: laid · CutsLieBetween: laid · ClosedStayClosed: laid · QuietHeightsAreAlike: laid · HeightsAreInside: laid · SlicesStay: laid.
  DERIVED. THE GIVEN ROWS OF THIS SEAT. 6 by the template 'for every input the law returns true; each argument reads behind the call as it read before'; 0 by the template 'total and deterministic' (their statements: YthanangkmjjbaaaGreatDoorTotals.lean).
  GIVEN WITH THE SEED: the statements are not yours to turn. If you find one false, say at which input.
  Laid BY PROGRAM, IN A SANDBOX (cutbox-rows.mjs): the forced cells as the released guide's own fill.sh prints them over the translation cde746a9471d5dd0… (all of the seat's roots in one cut). By AI agents, Wed Nov 11 2026. No macro, syntax, notation, axiom, sorry.
-/
import Derived.Test.YthanangkmjjbaaaGreatDoorChecked
import GoSem.PinnedTables
import GoSem.Claim
import GoSem.ClaimJoined
import GoSem.ClaimMapViews
import Derived.JoinedTies
import Derived.KernelRfl
namespace Go.Proofs.YthanangkmjjbaaaGreatDoor
/- THE CELL 'sum', in the pinned program and in every row, IS THE sha256 OF THE DUMP (.gsa) THAT YthanangkmjjbaaaGreatDoorProg.lean LOADS. Nothing in Lean hashes anything: it is a label: what it is worth is what the hold of that sum in a sandbox is worth. -/
noncomputable def Tryz.pinned : Pinned := { name := "ythanangkmjjbaaagreatdoor", sum := "cde746a9471d5dd09760b763b801d351da2e6f5aa5b88ffb20cbdbde67cd2dea", checked := Tryz.checked }
namespace Rows
def none {H : Type} : Left H := { results := [], args := [] }

/- WHAT THE LISTED PACKAGE-LEVEL VARIABLES READ AS WHEN THE CALL BEGINS. Each datum BY PROGRAM (the guide's laid-datum.mjs) off the statement by which the dump's own 'gosem.cut.vars' lays the variable. In a bare row this is a premise. The card (YthanangkmjjbaaaGreatDoorCards.lean) ties it to the program's text. -/
def laid_unicode_utf8_acceptRanges {H : Type} : DataW H := .agg [.agg [.lit (.int .u8 128), .lit (.int .u8 191)], .agg [.lit (.int .u8 160), .lit (.int .u8 191)], .agg [.lit (.int .u8 128), .lit (.int .u8 159)], .agg [.lit (.int .u8 144), .lit (.int .u8 191)], .agg [.lit (.int .u8 128), .lit (.int .u8 143)], .agg [.lit (.int .u8 0), .lit (.int .u8 0)], .agg [.lit (.int .u8 0), .lit (.int .u8 0)], .agg [.lit (.int .u8 0), .lit (.int .u8 0)], .agg [.lit (.int .u8 0), .lit (.int .u8 0)], .agg [.lit (.int .u8 0), .lit (.int .u8 0)], .agg [.lit (.int .u8 0), .lit (.int .u8 0)], .agg [.lit (.int .u8 0), .lit (.int .u8 0)], .agg [.lit (.int .u8 0), .lit (.int .u8 0)], .agg [.lit (.int .u8 0), .lit (.int .u8 0)], .agg [.lit (.int .u8 0), .lit (.int .u8 0)], .agg [.lit (.int .u8 0), .lit (.int .u8 0)]]
/-- One of Go's own tables, pinned by name: the form's constant. -/
def laid_unicode_utf8_first : DataW Unit := Go.Pinned.utf8First

/-- 'blkeep2.MovedSlicesMove': WHATEVER THE INPUT: true; the input reads as it did. -/
def movedSlicesMoveSpec : ChangeSpec := { name := "movedSlicesMove", fn := fun _ => fun
  | [d] => { results := [.lit (.bool true)], args := [d] }
  | _ => none }
def movedSlicesMoveRow : OpenClaim := { program := "ythanangkmjjbaaagreatdoor", sum := "cde746a9471d5dd09760b763b801d351da2e6f5aa5b88ffb20cbdbde67cd2dea", func := "beadlayer/blkeep2.MovedSlicesMove", spec := "movedSlicesMove", inPlace := ["internal/bytealg.IndexByteString", "internal/bytealg.IndexString", "internal/bytealg.abigen_runtime_cmpstring"], unfollowed := true, recurses := true, named := ["unicode/utf8.first", "unicode/utf8.acceptRanges", "internal/bytealg.MaxLen"], plainKeys := false, apart := false, laid := [("unicode/utf8.acceptRanges", laid_unicode_utf8_acceptRanges), ("unicode/utf8.first", laid_unicode_utf8_first)] }
def MovedSlicesMoveSaid : Prop := movedSlicesMoveRow.holds Tryz.pinned (OpenSpec.ofChange movedSlicesMoveSpec)

/-- ITS FALSE NEIGHBOUR: 'it returns false'. Refute it at one input. -/
def movedSlicesMoveWrong : ChangeSpec := { name := "movedSlicesMove", fn := fun _ => fun
  | [d] => { results := [.lit (.bool false)], args := [d] }
  | _ => none }
def MovedSlicesMoveWrongFalsely : Prop := movedSlicesMoveRow.holds Tryz.pinned (OpenSpec.ofChange movedSlicesMoveWrong)

/-- 'blkeep2.CutsLieBetween': WHATEVER THE INPUT: true; the input reads as it did. -/
def cutsLieBetweenSpec : ChangeSpec := { name := "cutsLieBetween", fn := fun _ => fun
  | [d] => { results := [.lit (.bool true)], args := [d] }
  | _ => none }
def cutsLieBetweenRow : OpenClaim := { program := "ythanangkmjjbaaagreatdoor", sum := "cde746a9471d5dd09760b763b801d351da2e6f5aa5b88ffb20cbdbde67cd2dea", func := "beadlayer/blkeep2.CutsLieBetween", spec := "cutsLieBetween", inPlace := ["internal/bytealg.IndexByteString", "internal/bytealg.IndexString", "internal/bytealg.abigen_runtime_cmpstring"], unfollowed := true, recurses := true, named := ["unicode/utf8.first", "unicode/utf8.acceptRanges", "internal/bytealg.MaxLen"], plainKeys := false, apart := false, laid := [("unicode/utf8.acceptRanges", laid_unicode_utf8_acceptRanges), ("unicode/utf8.first", laid_unicode_utf8_first)] }
def CutsLieBetweenSaid : Prop := cutsLieBetweenRow.holds Tryz.pinned (OpenSpec.ofChange cutsLieBetweenSpec)

/-- ITS FALSE NEIGHBOUR: 'it returns false'. Refute it at one input. -/
def cutsLieBetweenWrong : ChangeSpec := { name := "cutsLieBetween", fn := fun _ => fun
  | [d] => { results := [.lit (.bool false)], args := [d] }
  | _ => none }
def CutsLieBetweenWrongFalsely : Prop := cutsLieBetweenRow.holds Tryz.pinned (OpenSpec.ofChange cutsLieBetweenWrong)

/-- 'blkeep2.ClosedStayClosed': WHATEVER THE INPUT: true; the input reads as it did. -/
def closedStayClosedSpec : ChangeSpec := { name := "closedStayClosed", fn := fun _ => fun
  | [d] => { results := [.lit (.bool true)], args := [d] }
  | _ => none }
def closedStayClosedRow : OpenClaim := { program := "ythanangkmjjbaaagreatdoor", sum := "cde746a9471d5dd09760b763b801d351da2e6f5aa5b88ffb20cbdbde67cd2dea", func := "beadlayer/blkeep2.ClosedStayClosed", spec := "closedStayClosed", inPlace := ["internal/bytealg.IndexByteString", "internal/bytealg.IndexString", "internal/bytealg.abigen_runtime_cmpstring"], unfollowed := true, recurses := true, named := ["unicode/utf8.first", "unicode/utf8.acceptRanges", "internal/bytealg.MaxLen"], plainKeys := false, apart := false, laid := [("unicode/utf8.acceptRanges", laid_unicode_utf8_acceptRanges), ("unicode/utf8.first", laid_unicode_utf8_first)] }
def ClosedStayClosedSaid : Prop := closedStayClosedRow.holds Tryz.pinned (OpenSpec.ofChange closedStayClosedSpec)

/-- ITS FALSE NEIGHBOUR: 'it returns false'. Refute it at one input. -/
def closedStayClosedWrong : ChangeSpec := { name := "closedStayClosed", fn := fun _ => fun
  | [d] => { results := [.lit (.bool false)], args := [d] }
  | _ => none }
def ClosedStayClosedWrongFalsely : Prop := closedStayClosedRow.holds Tryz.pinned (OpenSpec.ofChange closedStayClosedWrong)

/-- 'blkeep2.QuietHeightsAreAlike': WHATEVER THE INPUT: true; the input reads as it did. -/
def quietHeightsAreAlikeSpec : ChangeSpec := { name := "quietHeightsAreAlike", fn := fun _ => fun
  | [d] => { results := [.lit (.bool true)], args := [d] }
  | _ => none }
def quietHeightsAreAlikeRow : OpenClaim := { program := "ythanangkmjjbaaagreatdoor", sum := "cde746a9471d5dd09760b763b801d351da2e6f5aa5b88ffb20cbdbde67cd2dea", func := "beadlayer/blkeep2.QuietHeightsAreAlike", spec := "quietHeightsAreAlike", inPlace := ["internal/bytealg.IndexByteString", "internal/bytealg.IndexString", "internal/bytealg.abigen_runtime_cmpstring"], unfollowed := true, recurses := true, named := ["unicode/utf8.first", "unicode/utf8.acceptRanges", "internal/bytealg.MaxLen"], plainKeys := false, apart := false, laid := [("unicode/utf8.acceptRanges", laid_unicode_utf8_acceptRanges), ("unicode/utf8.first", laid_unicode_utf8_first)] }
def QuietHeightsAreAlikeSaid : Prop := quietHeightsAreAlikeRow.holds Tryz.pinned (OpenSpec.ofChange quietHeightsAreAlikeSpec)

/-- ITS FALSE NEIGHBOUR: 'it returns false'. Refute it at one input. -/
def quietHeightsAreAlikeWrong : ChangeSpec := { name := "quietHeightsAreAlike", fn := fun _ => fun
  | [d] => { results := [.lit (.bool false)], args := [d] }
  | _ => none }
def QuietHeightsAreAlikeWrongFalsely : Prop := quietHeightsAreAlikeRow.holds Tryz.pinned (OpenSpec.ofChange quietHeightsAreAlikeWrong)

/-- 'blkeep2.HeightsAreInside': WHATEVER THE INPUT: true; the input reads as it did. -/
def heightsAreInsideSpec : ChangeSpec := { name := "heightsAreInside", fn := fun _ => fun
  | [d] => { results := [.lit (.bool true)], args := [d] }
  | _ => none }
def heightsAreInsideRow : OpenClaim := { program := "ythanangkmjjbaaagreatdoor", sum := "cde746a9471d5dd09760b763b801d351da2e6f5aa5b88ffb20cbdbde67cd2dea", func := "beadlayer/blkeep2.HeightsAreInside", spec := "heightsAreInside", inPlace := ["internal/bytealg.IndexByteString", "internal/bytealg.IndexString", "internal/bytealg.abigen_runtime_cmpstring"], unfollowed := true, recurses := true, named := ["unicode/utf8.first", "unicode/utf8.acceptRanges", "internal/bytealg.MaxLen"], plainKeys := false, apart := false, laid := [("unicode/utf8.acceptRanges", laid_unicode_utf8_acceptRanges), ("unicode/utf8.first", laid_unicode_utf8_first)] }
def HeightsAreInsideSaid : Prop := heightsAreInsideRow.holds Tryz.pinned (OpenSpec.ofChange heightsAreInsideSpec)

/-- ITS FALSE NEIGHBOUR: 'it returns false'. Refute it at one input. -/
def heightsAreInsideWrong : ChangeSpec := { name := "heightsAreInside", fn := fun _ => fun
  | [d] => { results := [.lit (.bool false)], args := [d] }
  | _ => none }
def HeightsAreInsideWrongFalsely : Prop := heightsAreInsideRow.holds Tryz.pinned (OpenSpec.ofChange heightsAreInsideWrong)

/-- 'blkeep2.SlicesStay': WHATEVER THE INPUT: true; the input reads as it did. -/
def slicesStaySpec : ChangeSpec := { name := "slicesStay", fn := fun _ => fun
  | [d] => { results := [.lit (.bool true)], args := [d] }
  | _ => none }
def slicesStayRow : OpenClaim := { program := "ythanangkmjjbaaagreatdoor", sum := "cde746a9471d5dd09760b763b801d351da2e6f5aa5b88ffb20cbdbde67cd2dea", func := "beadlayer/blkeep2.SlicesStay", spec := "slicesStay", inPlace := ["internal/abi.NoEscape", "internal/bytealg.IndexByteString", "internal/bytealg.IndexString", "internal/bytealg.abigen_runtime_cmpstring"], unfollowed := true, recurses := true, named := ["unicode/utf8.first", "unicode/utf8.acceptRanges", "internal/bytealg.MaxLen"], plainKeys := false, apart := false, laid := [("unicode/utf8.acceptRanges", laid_unicode_utf8_acceptRanges), ("unicode/utf8.first", laid_unicode_utf8_first)] }
def SlicesStaySaid : Prop := slicesStayRow.holds Tryz.pinned (OpenSpec.ofChange slicesStaySpec)

/-- ITS FALSE NEIGHBOUR: 'it returns false'. Refute it at one input. -/
def slicesStayWrong : ChangeSpec := { name := "slicesStay", fn := fun _ => fun
  | [d] => { results := [.lit (.bool false)], args := [d] }
  | _ => none }
def SlicesStayWrongFalsely : Prop := slicesStayRow.holds Tryz.pinned (OpenSpec.ofChange slicesStayWrong)

/- THE SECOND FORM. 'bulk': how many values and letters a reading holds, each counted each time it is reached (what is shared counts as often as it is met; a slice's spare places count too). A statement '..UptoSaid' is the law's where the arguments, and the package variables that the reading takes, are together of bulk at most 1048576: NARROWER than '..Said'. Prove '..Said' where nothing that the law and all that it calls make is longer than what came in: it says more and counts as full. Else prove '..UptoSaid'. A law counts once. -/
mutual
def uptoBulk {H : Type} : DataW H → Nat
  | .lit (.string bytes) => bytes.length + 1
  | .lit _ => 1
  | .nil => 1
  | .ptr d => uptoBulk d + 1
  | .slice elems spare => uptoBulkAll elems + uptoBulkAll spare + 1
  | .agg parts => uptoBulkAll parts + 1
  | .iface _ d => uptoBulk d + 1
  | .map entries => uptoBulkEntries entries + 1
  | .held _ => 1
def uptoBulkAll {H : Type} : List (DataW H) → Nat
  | [] => 0
  | d :: r => uptoBulk d + uptoBulkAll r
def uptoBulkEntries {H : Type} : List (Lit × DataW H) → Nat
  | [] => 0
  | x :: r => uptoBulkEntry x + uptoBulkEntries r
def uptoBulkEntry {H : Type} : Lit × DataW H → Nat
  | (.string bytes, d) => bytes.length + uptoBulk d + 1
  | (_, d) => uptoBulk d + 1
 end
def uptoSmall : (H : Type) → List (DataW H) → Bool := fun _ ds => decide (uptoBulkAll ds ≤ 1048576)
def OpenSpec.upto (s : _root_.Go.ChangeSpec) : _root_.Go.OpenSpec := { _root_.Go.OpenSpec.ofChange s with cond := some uptoSmall }

/-- 'blkeep2.MovedSlicesMove', WHERE WHAT IT READS IS OF BULK AT MOST 1048576: true; the input reads as it did. -/
def movedSlicesMoveUptoRow : OpenClaim := { program := "ythanangkmjjbaaagreatdoor", sum := "cde746a9471d5dd09760b763b801d351da2e6f5aa5b88ffb20cbdbde67cd2dea", func := "beadlayer/blkeep2.MovedSlicesMove", spec := "movedSlicesMove", inPlace := ["internal/bytealg.IndexByteString", "internal/bytealg.IndexString", "internal/bytealg.abigen_runtime_cmpstring"], unfollowed := true, recurses := true, named := ["unicode/utf8.first", "unicode/utf8.acceptRanges", "internal/bytealg.MaxLen"], plainKeys := false, apart := false, laid := [("unicode/utf8.acceptRanges", laid_unicode_utf8_acceptRanges), ("unicode/utf8.first", laid_unicode_utf8_first)], narrowed := true }
def MovedSlicesMoveUptoSaid : Prop := movedSlicesMoveUptoRow.holds Tryz.pinned (OpenSpec.upto movedSlicesMoveSpec)

/-- 'blkeep2.CutsLieBetween', WHERE WHAT IT READS IS OF BULK AT MOST 1048576: true; the input reads as it did. -/
def cutsLieBetweenUptoRow : OpenClaim := { program := "ythanangkmjjbaaagreatdoor", sum := "cde746a9471d5dd09760b763b801d351da2e6f5aa5b88ffb20cbdbde67cd2dea", func := "beadlayer/blkeep2.CutsLieBetween", spec := "cutsLieBetween", inPlace := ["internal/bytealg.IndexByteString", "internal/bytealg.IndexString", "internal/bytealg.abigen_runtime_cmpstring"], unfollowed := true, recurses := true, named := ["unicode/utf8.first", "unicode/utf8.acceptRanges", "internal/bytealg.MaxLen"], plainKeys := false, apart := false, laid := [("unicode/utf8.acceptRanges", laid_unicode_utf8_acceptRanges), ("unicode/utf8.first", laid_unicode_utf8_first)], narrowed := true }
def CutsLieBetweenUptoSaid : Prop := cutsLieBetweenUptoRow.holds Tryz.pinned (OpenSpec.upto cutsLieBetweenSpec)

/-- 'blkeep2.ClosedStayClosed', WHERE WHAT IT READS IS OF BULK AT MOST 1048576: true; the input reads as it did. -/
def closedStayClosedUptoRow : OpenClaim := { program := "ythanangkmjjbaaagreatdoor", sum := "cde746a9471d5dd09760b763b801d351da2e6f5aa5b88ffb20cbdbde67cd2dea", func := "beadlayer/blkeep2.ClosedStayClosed", spec := "closedStayClosed", inPlace := ["internal/bytealg.IndexByteString", "internal/bytealg.IndexString", "internal/bytealg.abigen_runtime_cmpstring"], unfollowed := true, recurses := true, named := ["unicode/utf8.first", "unicode/utf8.acceptRanges", "internal/bytealg.MaxLen"], plainKeys := false, apart := false, laid := [("unicode/utf8.acceptRanges", laid_unicode_utf8_acceptRanges), ("unicode/utf8.first", laid_unicode_utf8_first)], narrowed := true }
def ClosedStayClosedUptoSaid : Prop := closedStayClosedUptoRow.holds Tryz.pinned (OpenSpec.upto closedStayClosedSpec)

/-- 'blkeep2.QuietHeightsAreAlike', WHERE WHAT IT READS IS OF BULK AT MOST 1048576: true; the input reads as it did. -/
def quietHeightsAreAlikeUptoRow : OpenClaim := { program := "ythanangkmjjbaaagreatdoor", sum := "cde746a9471d5dd09760b763b801d351da2e6f5aa5b88ffb20cbdbde67cd2dea", func := "beadlayer/blkeep2.QuietHeightsAreAlike", spec := "quietHeightsAreAlike", inPlace := ["internal/bytealg.IndexByteString", "internal/bytealg.IndexString", "internal/bytealg.abigen_runtime_cmpstring"], unfollowed := true, recurses := true, named := ["unicode/utf8.first", "unicode/utf8.acceptRanges", "internal/bytealg.MaxLen"], plainKeys := false, apart := false, laid := [("unicode/utf8.acceptRanges", laid_unicode_utf8_acceptRanges), ("unicode/utf8.first", laid_unicode_utf8_first)], narrowed := true }
def QuietHeightsAreAlikeUptoSaid : Prop := quietHeightsAreAlikeUptoRow.holds Tryz.pinned (OpenSpec.upto quietHeightsAreAlikeSpec)

/-- 'blkeep2.HeightsAreInside', WHERE WHAT IT READS IS OF BULK AT MOST 1048576: true; the input reads as it did. -/
def heightsAreInsideUptoRow : OpenClaim := { program := "ythanangkmjjbaaagreatdoor", sum := "cde746a9471d5dd09760b763b801d351da2e6f5aa5b88ffb20cbdbde67cd2dea", func := "beadlayer/blkeep2.HeightsAreInside", spec := "heightsAreInside", inPlace := ["internal/bytealg.IndexByteString", "internal/bytealg.IndexString", "internal/bytealg.abigen_runtime_cmpstring"], unfollowed := true, recurses := true, named := ["unicode/utf8.first", "unicode/utf8.acceptRanges", "internal/bytealg.MaxLen"], plainKeys := false, apart := false, laid := [("unicode/utf8.acceptRanges", laid_unicode_utf8_acceptRanges), ("unicode/utf8.first", laid_unicode_utf8_first)], narrowed := true }
def HeightsAreInsideUptoSaid : Prop := heightsAreInsideUptoRow.holds Tryz.pinned (OpenSpec.upto heightsAreInsideSpec)

/-- 'blkeep2.SlicesStay', WHERE WHAT IT READS IS OF BULK AT MOST 1048576: true; the input reads as it did. -/
def slicesStayUptoRow : OpenClaim := { program := "ythanangkmjjbaaagreatdoor", sum := "cde746a9471d5dd09760b763b801d351da2e6f5aa5b88ffb20cbdbde67cd2dea", func := "beadlayer/blkeep2.SlicesStay", spec := "slicesStay", inPlace := ["internal/abi.NoEscape", "internal/bytealg.IndexByteString", "internal/bytealg.IndexString", "internal/bytealg.abigen_runtime_cmpstring"], unfollowed := true, recurses := true, named := ["unicode/utf8.first", "unicode/utf8.acceptRanges", "internal/bytealg.MaxLen"], plainKeys := false, apart := false, laid := [("unicode/utf8.acceptRanges", laid_unicode_utf8_acceptRanges), ("unicode/utf8.first", laid_unicode_utf8_first)], narrowed := true }
def SlicesStayUptoSaid : Prop := slicesStayUptoRow.holds Tryz.pinned (OpenSpec.upto slicesStaySpec)

end Rows
end Go.Proofs.YthanangkmjjbaaaGreatDoor
