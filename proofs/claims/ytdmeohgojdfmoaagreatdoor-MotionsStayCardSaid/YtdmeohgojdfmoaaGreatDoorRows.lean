/-
  NARROWER THAN 'FOR EVERY INPUT', by the rows' own cells (each row's printed sentence says how): TimesAreLong: laid · BothWaysAreSame: laid · SpeedsKeepLimits: laid · RunsAreSteps: laid · MoreIsFaster: laid · FormsDoSame: laid · CodesStay: laid · MotionsStay: laid.
  DERIVED. THE GIVEN ROWS OF THIS SEAT. 8 by the template 'for every input the law returns true; each argument reads behind the call as it read before'; 0 by the template 'total and deterministic' (their statements: YtdmeohgojdfmoaaGreatDoorTotals.lean).
  GIVEN WITH THE SEED: the statements are not yours to turn. If you find one false, say at which input.
  Laid BY PROGRAM, IN A SANDBOX (cutbox-rows.mjs): the forced cells as the released guide's own fill.sh prints them over the translation 82fa7dc76e022c20… (all of the seat's roots in one cut). By AI agents, Wed Nov 11 2026. No macro, syntax, notation, axiom, sorry.
-/
import Derived.Test.YtdmeohgojdfmoaaGreatDoorChecked
import GoSem.PinnedTables
import GoSem.Claim
import GoSem.ClaimJoined
import GoSem.ClaimMapViews
import Derived.JoinedTies
import Derived.KernelRfl
namespace Go.Proofs.YtdmeohgojdfmoaaGreatDoor
/- THE CELL 'sum', in the pinned program and in every row, IS THE sha256 OF THE DUMP (.gsa) THAT YtdmeohgojdfmoaaGreatDoorProg.lean LOADS. Nothing in Lean hashes anything: it is a label: what it is worth is what the hold of that sum in a sandbox is worth. -/
noncomputable def Tryz.pinned : Pinned := { name := "ytdmeohgojdfmoaagreatdoor", sum := "82fa7dc76e022c20391571a0449753867620ab81834a3cdf47382884a31cfae3", checked := Tryz.checked }
namespace Rows
def none {H : Type} : Left H := { results := [], args := [] }

/- WHAT THE LISTED PACKAGE-LEVEL VARIABLES READ AS WHEN THE CALL BEGINS. Each datum BY PROGRAM (the guide's laid-datum.mjs) off the statement by which the dump's own 'gosem.cut.vars' lays the variable. In a bare row this is a premise. The card (YtdmeohgojdfmoaaGreatDoorCards.lean) ties it to the program's text. -/
def laid_unicode_utf8_acceptRanges {H : Type} : DataW H := .agg [.agg [.lit (.int .u8 128), .lit (.int .u8 191)], .agg [.lit (.int .u8 160), .lit (.int .u8 191)], .agg [.lit (.int .u8 128), .lit (.int .u8 159)], .agg [.lit (.int .u8 144), .lit (.int .u8 191)], .agg [.lit (.int .u8 128), .lit (.int .u8 143)], .agg [.lit (.int .u8 0), .lit (.int .u8 0)], .agg [.lit (.int .u8 0), .lit (.int .u8 0)], .agg [.lit (.int .u8 0), .lit (.int .u8 0)], .agg [.lit (.int .u8 0), .lit (.int .u8 0)], .agg [.lit (.int .u8 0), .lit (.int .u8 0)], .agg [.lit (.int .u8 0), .lit (.int .u8 0)], .agg [.lit (.int .u8 0), .lit (.int .u8 0)], .agg [.lit (.int .u8 0), .lit (.int .u8 0)], .agg [.lit (.int .u8 0), .lit (.int .u8 0)], .agg [.lit (.int .u8 0), .lit (.int .u8 0)], .agg [.lit (.int .u8 0), .lit (.int .u8 0)]]
/-- One of Go's own tables, pinned by name: the form's constant. -/
def laid_unicode_utf8_first : DataW Unit := Go.Pinned.utf8First

/-- 'blkeep2.TimesAreLong': WHATEVER THE INPUT: true; the input reads as it did. -/
def timesAreLongSpec : ChangeSpec := { name := "timesAreLong", fn := fun _ => fun
  | [d] => { results := [.lit (.bool true)], args := [d] }
  | _ => none }
def timesAreLongRow : OpenClaim := { program := "ytdmeohgojdfmoaagreatdoor", sum := "82fa7dc76e022c20391571a0449753867620ab81834a3cdf47382884a31cfae3", func := "beadlayer/blkeep2.TimesAreLong", spec := "timesAreLong", inPlace := ["internal/bytealg.IndexByteString", "internal/bytealg.IndexString", "internal/bytealg.abigen_runtime_cmpstring"], unfollowed := true, recurses := true, named := ["unicode/utf8.first", "unicode/utf8.acceptRanges", "internal/bytealg.MaxLen"], plainKeys := false, apart := false, laid := [("unicode/utf8.acceptRanges", laid_unicode_utf8_acceptRanges), ("unicode/utf8.first", laid_unicode_utf8_first)] }
def TimesAreLongSaid : Prop := timesAreLongRow.holds Tryz.pinned (OpenSpec.ofChange timesAreLongSpec)

/-- ITS FALSE NEIGHBOUR: 'it returns false'. Refute it at one input. -/
def timesAreLongWrong : ChangeSpec := { name := "timesAreLong", fn := fun _ => fun
  | [d] => { results := [.lit (.bool false)], args := [d] }
  | _ => none }
def TimesAreLongWrongFalsely : Prop := timesAreLongRow.holds Tryz.pinned (OpenSpec.ofChange timesAreLongWrong)

/-- 'blkeep2.BothWaysAreSame': WHATEVER THE INPUT: true; the input reads as it did. -/
def bothWaysAreSameSpec : ChangeSpec := { name := "bothWaysAreSame", fn := fun _ => fun
  | [d] => { results := [.lit (.bool true)], args := [d] }
  | _ => none }
def bothWaysAreSameRow : OpenClaim := { program := "ytdmeohgojdfmoaagreatdoor", sum := "82fa7dc76e022c20391571a0449753867620ab81834a3cdf47382884a31cfae3", func := "beadlayer/blkeep2.BothWaysAreSame", spec := "bothWaysAreSame", inPlace := ["internal/bytealg.IndexByteString", "internal/bytealg.IndexString", "internal/bytealg.abigen_runtime_cmpstring"], unfollowed := true, recurses := true, named := ["unicode/utf8.first", "unicode/utf8.acceptRanges", "internal/bytealg.MaxLen"], plainKeys := false, apart := false, laid := [("unicode/utf8.acceptRanges", laid_unicode_utf8_acceptRanges), ("unicode/utf8.first", laid_unicode_utf8_first)] }
def BothWaysAreSameSaid : Prop := bothWaysAreSameRow.holds Tryz.pinned (OpenSpec.ofChange bothWaysAreSameSpec)

/-- ITS FALSE NEIGHBOUR: 'it returns false'. Refute it at one input. -/
def bothWaysAreSameWrong : ChangeSpec := { name := "bothWaysAreSame", fn := fun _ => fun
  | [d] => { results := [.lit (.bool false)], args := [d] }
  | _ => none }
def BothWaysAreSameWrongFalsely : Prop := bothWaysAreSameRow.holds Tryz.pinned (OpenSpec.ofChange bothWaysAreSameWrong)

/-- 'blkeep2.SpeedsKeepLimits': WHATEVER THE INPUT: true; the input reads as it did. -/
def speedsKeepLimitsSpec : ChangeSpec := { name := "speedsKeepLimits", fn := fun _ => fun
  | [d] => { results := [.lit (.bool true)], args := [d] }
  | _ => none }
def speedsKeepLimitsRow : OpenClaim := { program := "ytdmeohgojdfmoaagreatdoor", sum := "82fa7dc76e022c20391571a0449753867620ab81834a3cdf47382884a31cfae3", func := "beadlayer/blkeep2.SpeedsKeepLimits", spec := "speedsKeepLimits", inPlace := ["internal/bytealg.IndexByteString", "internal/bytealg.IndexString", "internal/bytealg.abigen_runtime_cmpstring"], unfollowed := true, recurses := true, named := ["unicode/utf8.first", "unicode/utf8.acceptRanges", "internal/bytealg.MaxLen"], plainKeys := false, apart := false, laid := [("unicode/utf8.acceptRanges", laid_unicode_utf8_acceptRanges), ("unicode/utf8.first", laid_unicode_utf8_first)] }
def SpeedsKeepLimitsSaid : Prop := speedsKeepLimitsRow.holds Tryz.pinned (OpenSpec.ofChange speedsKeepLimitsSpec)

/-- ITS FALSE NEIGHBOUR: 'it returns false'. Refute it at one input. -/
def speedsKeepLimitsWrong : ChangeSpec := { name := "speedsKeepLimits", fn := fun _ => fun
  | [d] => { results := [.lit (.bool false)], args := [d] }
  | _ => none }
def SpeedsKeepLimitsWrongFalsely : Prop := speedsKeepLimitsRow.holds Tryz.pinned (OpenSpec.ofChange speedsKeepLimitsWrong)

/-- 'blkeep2.RunsAreSteps': WHATEVER THE INPUT: true; the input reads as it did. -/
def runsAreStepsSpec : ChangeSpec := { name := "runsAreSteps", fn := fun _ => fun
  | [d] => { results := [.lit (.bool true)], args := [d] }
  | _ => none }
def runsAreStepsRow : OpenClaim := { program := "ytdmeohgojdfmoaagreatdoor", sum := "82fa7dc76e022c20391571a0449753867620ab81834a3cdf47382884a31cfae3", func := "beadlayer/blkeep2.RunsAreSteps", spec := "runsAreSteps", inPlace := ["internal/bytealg.IndexByteString", "internal/bytealg.IndexString", "internal/bytealg.abigen_runtime_cmpstring"], unfollowed := true, recurses := true, named := ["unicode/utf8.first", "unicode/utf8.acceptRanges", "internal/bytealg.MaxLen"], plainKeys := false, apart := false, laid := [("unicode/utf8.acceptRanges", laid_unicode_utf8_acceptRanges), ("unicode/utf8.first", laid_unicode_utf8_first)] }
def RunsAreStepsSaid : Prop := runsAreStepsRow.holds Tryz.pinned (OpenSpec.ofChange runsAreStepsSpec)

/-- ITS FALSE NEIGHBOUR: 'it returns false'. Refute it at one input. -/
def runsAreStepsWrong : ChangeSpec := { name := "runsAreSteps", fn := fun _ => fun
  | [d] => { results := [.lit (.bool false)], args := [d] }
  | _ => none }
def RunsAreStepsWrongFalsely : Prop := runsAreStepsRow.holds Tryz.pinned (OpenSpec.ofChange runsAreStepsWrong)

/-- 'blkeep2.MoreIsFaster': WHATEVER THE INPUT: true; the input reads as it did. -/
def moreIsFasterSpec : ChangeSpec := { name := "moreIsFaster", fn := fun _ => fun
  | [d] => { results := [.lit (.bool true)], args := [d] }
  | _ => none }
def moreIsFasterRow : OpenClaim := { program := "ytdmeohgojdfmoaagreatdoor", sum := "82fa7dc76e022c20391571a0449753867620ab81834a3cdf47382884a31cfae3", func := "beadlayer/blkeep2.MoreIsFaster", spec := "moreIsFaster", inPlace := ["internal/bytealg.IndexByteString", "internal/bytealg.IndexString", "internal/bytealg.abigen_runtime_cmpstring", "slices.overlaps[beadlayer/api.Leg]", "slices.overlaps[int]"], unfollowed := true, recurses := true, named := ["unicode/utf8.first", "unicode/utf8.acceptRanges", "internal/bytealg.MaxLen"], plainKeys := false, apart := false, laid := [("unicode/utf8.acceptRanges", laid_unicode_utf8_acceptRanges), ("unicode/utf8.first", laid_unicode_utf8_first)] }
def MoreIsFasterSaid : Prop := moreIsFasterRow.holds Tryz.pinned (OpenSpec.ofChange moreIsFasterSpec)

/-- ITS FALSE NEIGHBOUR: 'it returns false'. Refute it at one input. -/
def moreIsFasterWrong : ChangeSpec := { name := "moreIsFaster", fn := fun _ => fun
  | [d] => { results := [.lit (.bool false)], args := [d] }
  | _ => none }
def MoreIsFasterWrongFalsely : Prop := moreIsFasterRow.holds Tryz.pinned (OpenSpec.ofChange moreIsFasterWrong)

/-- 'blkeep2.FormsDoSame': WHATEVER THE INPUT: true; the input reads as it did. -/
def formsDoSameSpec : ChangeSpec := { name := "formsDoSame", fn := fun _ => fun
  | [d] => { results := [.lit (.bool true)], args := [d] }
  | _ => none }
def formsDoSameRow : OpenClaim := { program := "ytdmeohgojdfmoaagreatdoor", sum := "82fa7dc76e022c20391571a0449753867620ab81834a3cdf47382884a31cfae3", func := "beadlayer/blkeep2.FormsDoSame", spec := "formsDoSame", inPlace := ["slices.overlaps[beadlayer/api.Step]", "internal/bytealg.IndexByteString", "internal/bytealg.IndexString", "internal/bytealg.abigen_runtime_cmpstring"], unfollowed := true, recurses := true, named := ["unicode/utf8.first", "unicode/utf8.acceptRanges", "internal/bytealg.MaxLen"], plainKeys := false, apart := false, laid := [("unicode/utf8.acceptRanges", laid_unicode_utf8_acceptRanges), ("unicode/utf8.first", laid_unicode_utf8_first)] }
def FormsDoSameSaid : Prop := formsDoSameRow.holds Tryz.pinned (OpenSpec.ofChange formsDoSameSpec)

/-- ITS FALSE NEIGHBOUR: 'it returns false'. Refute it at one input. -/
def formsDoSameWrong : ChangeSpec := { name := "formsDoSame", fn := fun _ => fun
  | [d] => { results := [.lit (.bool false)], args := [d] }
  | _ => none }
def FormsDoSameWrongFalsely : Prop := formsDoSameRow.holds Tryz.pinned (OpenSpec.ofChange formsDoSameWrong)

/-- 'blkeep2.CodesStay': WHATEVER THE INPUT: true; the input reads as it did. -/
def codesStaySpec : ChangeSpec := { name := "codesStay", fn := fun _ => fun
  | [d] => { results := [.lit (.bool true)], args := [d] }
  | _ => none }
def codesStayRow : OpenClaim := { program := "ytdmeohgojdfmoaagreatdoor", sum := "82fa7dc76e022c20391571a0449753867620ab81834a3cdf47382884a31cfae3", func := "beadlayer/blkeep2.CodesStay", spec := "codesStay", inPlace := ["internal/bytealg.IndexByteString", "internal/bytealg.IndexString", "internal/bytealg.abigen_runtime_cmpstring"], unfollowed := true, recurses := true, named := ["unicode/utf8.first", "unicode/utf8.acceptRanges", "internal/bytealg.MaxLen"], plainKeys := false, apart := false, laid := [("unicode/utf8.acceptRanges", laid_unicode_utf8_acceptRanges), ("unicode/utf8.first", laid_unicode_utf8_first)] }
def CodesStaySaid : Prop := codesStayRow.holds Tryz.pinned (OpenSpec.ofChange codesStaySpec)

/-- ITS FALSE NEIGHBOUR: 'it returns false'. Refute it at one input. -/
def codesStayWrong : ChangeSpec := { name := "codesStay", fn := fun _ => fun
  | [d] => { results := [.lit (.bool false)], args := [d] }
  | _ => none }
def CodesStayWrongFalsely : Prop := codesStayRow.holds Tryz.pinned (OpenSpec.ofChange codesStayWrong)

/-- 'blkeep2.MotionsStay': WHATEVER THE INPUT: true; the input reads as it did. -/
def motionsStaySpec : ChangeSpec := { name := "motionsStay", fn := fun _ => fun
  | [d] => { results := [.lit (.bool true)], args := [d] }
  | _ => none }
def motionsStayRow : OpenClaim := { program := "ytdmeohgojdfmoaagreatdoor", sum := "82fa7dc76e022c20391571a0449753867620ab81834a3cdf47382884a31cfae3", func := "beadlayer/blkeep2.MotionsStay", spec := "motionsStay", inPlace := ["slices.overlaps[beadlayer/api.Leg]", "slices.overlaps[int]", "internal/bytealg.IndexByteString", "internal/bytealg.IndexString", "internal/bytealg.abigen_runtime_cmpstring"], unfollowed := true, recurses := true, named := ["unicode/utf8.first", "unicode/utf8.acceptRanges", "internal/bytealg.MaxLen"], plainKeys := false, apart := false, laid := [("unicode/utf8.acceptRanges", laid_unicode_utf8_acceptRanges), ("unicode/utf8.first", laid_unicode_utf8_first)] }
def MotionsStaySaid : Prop := motionsStayRow.holds Tryz.pinned (OpenSpec.ofChange motionsStaySpec)

/-- ITS FALSE NEIGHBOUR: 'it returns false'. Refute it at one input. -/
def motionsStayWrong : ChangeSpec := { name := "motionsStay", fn := fun _ => fun
  | [d] => { results := [.lit (.bool false)], args := [d] }
  | _ => none }
def MotionsStayWrongFalsely : Prop := motionsStayRow.holds Tryz.pinned (OpenSpec.ofChange motionsStayWrong)

/- THE SECOND FORM. 'bulk': how many values and letters a reading holds, each counted each time it is reached (what is shared counts as often as it is met; a slice's spare places count too). A statement '..UptoSaid' is the law's where the arguments, and the package variables that the reading takes, are together of bulk at most 1048576: NARROWER than '..Said'. Prove '..Said' where nothing that the law and all that it calls make is longer than what came in: it says more and counts as full. Else prove '..UptoSaid'. A law counts once. -/
mutual
def uptoBulk {H : Type} : DataW H → Nat
  | .lit (.string bytes) => bytes.length + 1
  | .lit _ => 1
  | .nil => 1
  | .ptr d => uptoBulk d + 1
  | .slice elems spare => uptoBulkAll elems + uptoBulkAll spare + 1
  | .agg parts => uptoBulkAll parts + 1
  | .iface _ d => uptoBulk d + 1
  | .map entries => uptoBulkEntries entries + 1
  | .held _ => 1
def uptoBulkAll {H : Type} : List (DataW H) → Nat
  | [] => 0
  | d :: r => uptoBulk d + uptoBulkAll r
def uptoBulkEntries {H : Type} : List (Lit × DataW H) → Nat
  | [] => 0
  | x :: r => uptoBulkEntry x + uptoBulkEntries r
def uptoBulkEntry {H : Type} : Lit × DataW H → Nat
  | (.string bytes, d) => bytes.length + uptoBulk d + 1
  | (_, d) => uptoBulk d + 1
 end
def uptoSmall : (H : Type) → List (DataW H) → Bool := fun _ ds => decide (uptoBulkAll ds ≤ 1048576)
def OpenSpec.upto (s : _root_.Go.ChangeSpec) : _root_.Go.OpenSpec := { _root_.Go.OpenSpec.ofChange s with cond := some uptoSmall }

/-- 'blkeep2.TimesAreLong', WHERE WHAT IT READS IS OF BULK AT MOST 1048576: true; the input reads as it did. -/
def timesAreLongUptoRow : OpenClaim := { program := "ytdmeohgojdfmoaagreatdoor", sum := "82fa7dc76e022c20391571a0449753867620ab81834a3cdf47382884a31cfae3", func := "beadlayer/blkeep2.TimesAreLong", spec := "timesAreLong", inPlace := ["internal/bytealg.IndexByteString", "internal/bytealg.IndexString", "internal/bytealg.abigen_runtime_cmpstring"], unfollowed := true, recurses := true, named := ["unicode/utf8.first", "unicode/utf8.acceptRanges", "internal/bytealg.MaxLen"], plainKeys := false, apart := false, laid := [("unicode/utf8.acceptRanges", laid_unicode_utf8_acceptRanges), ("unicode/utf8.first", laid_unicode_utf8_first)], narrowed := true }
def TimesAreLongUptoSaid : Prop := timesAreLongUptoRow.holds Tryz.pinned (OpenSpec.upto timesAreLongSpec)

/-- 'blkeep2.BothWaysAreSame', WHERE WHAT IT READS IS OF BULK AT MOST 1048576: true; the input reads as it did. -/
def bothWaysAreSameUptoRow : OpenClaim := { program := "ytdmeohgojdfmoaagreatdoor", sum := "82fa7dc76e022c20391571a0449753867620ab81834a3cdf47382884a31cfae3", func := "beadlayer/blkeep2.BothWaysAreSame", spec := "bothWaysAreSame", inPlace := ["internal/bytealg.IndexByteString", "internal/bytealg.IndexString", "internal/bytealg.abigen_runtime_cmpstring"], unfollowed := true, recurses := true, named := ["unicode/utf8.first", "unicode/utf8.acceptRanges", "internal/bytealg.MaxLen"], plainKeys := false, apart := false, laid := [("unicode/utf8.acceptRanges", laid_unicode_utf8_acceptRanges), ("unicode/utf8.first", laid_unicode_utf8_first)], narrowed := true }
def BothWaysAreSameUptoSaid : Prop := bothWaysAreSameUptoRow.holds Tryz.pinned (OpenSpec.upto bothWaysAreSameSpec)

/-- 'blkeep2.SpeedsKeepLimits', WHERE WHAT IT READS IS OF BULK AT MOST 1048576: true; the input reads as it did. -/
def speedsKeepLimitsUptoRow : OpenClaim := { program := "ytdmeohgojdfmoaagreatdoor", sum := "82fa7dc76e022c20391571a0449753867620ab81834a3cdf47382884a31cfae3", func := "beadlayer/blkeep2.SpeedsKeepLimits", spec := "speedsKeepLimits", inPlace := ["internal/bytealg.IndexByteString", "internal/bytealg.IndexString", "internal/bytealg.abigen_runtime_cmpstring"], unfollowed := true, recurses := true, named := ["unicode/utf8.first", "unicode/utf8.acceptRanges", "internal/bytealg.MaxLen"], plainKeys := false, apart := false, laid := [("unicode/utf8.acceptRanges", laid_unicode_utf8_acceptRanges), ("unicode/utf8.first", laid_unicode_utf8_first)], narrowed := true }
def SpeedsKeepLimitsUptoSaid : Prop := speedsKeepLimitsUptoRow.holds Tryz.pinned (OpenSpec.upto speedsKeepLimitsSpec)

/-- 'blkeep2.RunsAreSteps', WHERE WHAT IT READS IS OF BULK AT MOST 1048576: true; the input reads as it did. -/
def runsAreStepsUptoRow : OpenClaim := { program := "ytdmeohgojdfmoaagreatdoor", sum := "82fa7dc76e022c20391571a0449753867620ab81834a3cdf47382884a31cfae3", func := "beadlayer/blkeep2.RunsAreSteps", spec := "runsAreSteps", inPlace := ["internal/bytealg.IndexByteString", "internal/bytealg.IndexString", "internal/bytealg.abigen_runtime_cmpstring"], unfollowed := true, recurses := true, named := ["unicode/utf8.first", "unicode/utf8.acceptRanges", "internal/bytealg.MaxLen"], plainKeys := false, apart := false, laid := [("unicode/utf8.acceptRanges", laid_unicode_utf8_acceptRanges), ("unicode/utf8.first", laid_unicode_utf8_first)], narrowed := true }
def RunsAreStepsUptoSaid : Prop := runsAreStepsUptoRow.holds Tryz.pinned (OpenSpec.upto runsAreStepsSpec)

/-- 'blkeep2.MoreIsFaster', WHERE WHAT IT READS IS OF BULK AT MOST 1048576: true; the input reads as it did. -/
def moreIsFasterUptoRow : OpenClaim := { program := "ytdmeohgojdfmoaagreatdoor", sum := "82fa7dc76e022c20391571a0449753867620ab81834a3cdf47382884a31cfae3", func := "beadlayer/blkeep2.MoreIsFaster", spec := "moreIsFaster", inPlace := ["internal/bytealg.IndexByteString", "internal/bytealg.IndexString", "internal/bytealg.abigen_runtime_cmpstring", "slices.overlaps[beadlayer/api.Leg]", "slices.overlaps[int]"], unfollowed := true, recurses := true, named := ["unicode/utf8.first", "unicode/utf8.acceptRanges", "internal/bytealg.MaxLen"], plainKeys := false, apart := false, laid := [("unicode/utf8.acceptRanges", laid_unicode_utf8_acceptRanges), ("unicode/utf8.first", laid_unicode_utf8_first)], narrowed := true }
def MoreIsFasterUptoSaid : Prop := moreIsFasterUptoRow.holds Tryz.pinned (OpenSpec.upto moreIsFasterSpec)

/-- 'blkeep2.FormsDoSame', WHERE WHAT IT READS IS OF BULK AT MOST 1048576: true; the input reads as it did. -/
def formsDoSameUptoRow : OpenClaim := { program := "ytdmeohgojdfmoaagreatdoor", sum := "82fa7dc76e022c20391571a0449753867620ab81834a3cdf47382884a31cfae3", func := "beadlayer/blkeep2.FormsDoSame", spec := "formsDoSame", inPlace := ["slices.overlaps[beadlayer/api.Step]", "internal/bytealg.IndexByteString", "internal/bytealg.IndexString", "internal/bytealg.abigen_runtime_cmpstring"], unfollowed := true, recurses := true, named := ["unicode/utf8.first", "unicode/utf8.acceptRanges", "internal/bytealg.MaxLen"], plainKeys := false, apart := false, laid := [("unicode/utf8.acceptRanges", laid_unicode_utf8_acceptRanges), ("unicode/utf8.first", laid_unicode_utf8_first)], narrowed := true }
def FormsDoSameUptoSaid : Prop := formsDoSameUptoRow.holds Tryz.pinned (OpenSpec.upto formsDoSameSpec)

/-- 'blkeep2.CodesStay', WHERE WHAT IT READS IS OF BULK AT MOST 1048576: true; the input reads as it did. -/
def codesStayUptoRow : OpenClaim := { program := "ytdmeohgojdfmoaagreatdoor", sum := "82fa7dc76e022c20391571a0449753867620ab81834a3cdf47382884a31cfae3", func := "beadlayer/blkeep2.CodesStay", spec := "codesStay", inPlace := ["internal/bytealg.IndexByteString", "internal/bytealg.IndexString", "internal/bytealg.abigen_runtime_cmpstring"], unfollowed := true, recurses := true, named := ["unicode/utf8.first", "unicode/utf8.acceptRanges", "internal/bytealg.MaxLen"], plainKeys := false, apart := false, laid := [("unicode/utf8.acceptRanges", laid_unicode_utf8_acceptRanges), ("unicode/utf8.first", laid_unicode_utf8_first)], narrowed := true }
def CodesStayUptoSaid : Prop := codesStayUptoRow.holds Tryz.pinned (OpenSpec.upto codesStaySpec)

/-- 'blkeep2.MotionsStay', WHERE WHAT IT READS IS OF BULK AT MOST 1048576: true; the input reads as it did. -/
def motionsStayUptoRow : OpenClaim := { program := "ytdmeohgojdfmoaagreatdoor", sum := "82fa7dc76e022c20391571a0449753867620ab81834a3cdf47382884a31cfae3", func := "beadlayer/blkeep2.MotionsStay", spec := "motionsStay", inPlace := ["slices.overlaps[beadlayer/api.Leg]", "slices.overlaps[int]", "internal/bytealg.IndexByteString", "internal/bytealg.IndexString", "internal/bytealg.abigen_runtime_cmpstring"], unfollowed := true, recurses := true, named := ["unicode/utf8.first", "unicode/utf8.acceptRanges", "internal/bytealg.MaxLen"], plainKeys := false, apart := false, laid := [("unicode/utf8.acceptRanges", laid_unicode_utf8_acceptRanges), ("unicode/utf8.first", laid_unicode_utf8_first)], narrowed := true }
def MotionsStayUptoSaid : Prop := motionsStayUptoRow.holds Tryz.pinned (OpenSpec.upto motionsStaySpec)

end Rows
end Go.Proofs.YtdmeohgojdfmoaaGreatDoor
