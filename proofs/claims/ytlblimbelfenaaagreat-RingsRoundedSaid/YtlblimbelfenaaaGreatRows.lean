/-
  No cell of these rows narrows 'for every input' (looked for: loops, veiled, ifaces, maps, wideKeys, modest, calm, conditions, laid).
  DERIVED. THE GIVEN ROWS OF THIS SEAT. 3 by the template 'for every input the law returns true; each argument reads behind the call as it read before'; 0 by the template 'total and deterministic' (their statements: YtlblimbelfenaaaGreatTotals.lean).
  GIVEN WITH THE SEED: the statements are not yours to turn. If you find one false, say at which input.
  Laid BY PROGRAM, IN A SANDBOX (cutbox-rows.mjs): the forced cells as the released guide's own fill.sh prints them over the translation 1a5e005bd1d9d63c… (all of the seat's roots in one cut). By AI agents, Wed Nov 11 2026. No macro, syntax, notation, axiom, sorry.
-/
import Derived.Test.YtlblimbelfenaaaGreatChecked
import GoSem.Claim
import GoSem.ClaimJoined
import GoSem.ClaimMapViews
import Derived.JoinedTies
import Derived.KernelRfl
namespace Go.Proofs.YtlblimbelfenaaaGreat
/- THE CELL 'sum', in the pinned program and in every row, IS THE sha256 OF THE DUMP (.gsa) THAT YtlblimbelfenaaaGreatProg.lean LOADS. Nothing in Lean hashes anything: it is a label: what it is worth is what the hold of that sum in a sandbox is worth. -/
noncomputable def Tryz.pinned : Pinned := { name := "ytlblimbelfenaaagreat", sum := "1a5e005bd1d9d63cdde75301b9b0acee2e105f732f3c2caaa1344ad5b2f92536", checked := Tryz.checked }
namespace Rows
def none {H : Type} : Left H := { results := [], args := [] }

/-- 'bllaw2.RingsRounded': WHATEVER THE INPUT: true; the input reads as it did. -/
def ringsRoundedSpec : ChangeSpec := { name := "ringsRounded", fn := fun _ => fun
  | [d] => { results := [.lit (.bool true)], args := [d] }
  | _ => none }
def ringsRoundedRow : OpenClaim := { program := "ytlblimbelfenaaagreat", sum := "1a5e005bd1d9d63cdde75301b9b0acee2e105f732f3c2caaa1344ad5b2f92536", func := "beadlayer/bllaw2.RingsRounded", spec := "ringsRounded", unfollowed := true, recurses := true, plainKeys := false, apart := false }
def RingsRoundedSaid : Prop := ringsRoundedRow.holds Tryz.pinned (OpenSpec.ofChange ringsRoundedSpec)

/-- ITS FALSE NEIGHBOUR: 'it returns false'. Refute it at one input. -/
def ringsRoundedWrong : ChangeSpec := { name := "ringsRounded", fn := fun _ => fun
  | [d] => { results := [.lit (.bool false)], args := [d] }
  | _ => none }
def RingsRoundedWrongFalsely : Prop := ringsRoundedRow.holds Tryz.pinned (OpenSpec.ofChange ringsRoundedWrong)

/-- 'bllaw2.ContoursChained': WHATEVER THE INPUT: true; the input reads as it did. -/
def contoursChainedSpec : ChangeSpec := { name := "contoursChained", fn := fun _ => fun
  | [d] => { results := [.lit (.bool true)], args := [d] }
  | _ => none }
def contoursChainedRow : OpenClaim := { program := "ytlblimbelfenaaagreat", sum := "1a5e005bd1d9d63cdde75301b9b0acee2e105f732f3c2caaa1344ad5b2f92536", func := "beadlayer/bllaw2.ContoursChained", spec := "contoursChained", unfollowed := true, recurses := true, plainKeys := false, apart := false }
def ContoursChainedSaid : Prop := contoursChainedRow.holds Tryz.pinned (OpenSpec.ofChange contoursChainedSpec)

/-- ITS FALSE NEIGHBOUR: 'it returns false'. Refute it at one input. -/
def contoursChainedWrong : ChangeSpec := { name := "contoursChained", fn := fun _ => fun
  | [d] => { results := [.lit (.bool false)], args := [d] }
  | _ => none }
def ContoursChainedWrongFalsely : Prop := contoursChainedRow.holds Tryz.pinned (OpenSpec.ofChange contoursChainedWrong)

/-- 'bllaw2.HeightsChosen': WHATEVER THE INPUT: true; the input reads as it did. -/
def heightsChosenSpec : ChangeSpec := { name := "heightsChosen", fn := fun _ => fun
  | [d] => { results := [.lit (.bool true)], args := [d] }
  | _ => none }
def heightsChosenRow : OpenClaim := { program := "ytlblimbelfenaaagreat", sum := "1a5e005bd1d9d63cdde75301b9b0acee2e105f732f3c2caaa1344ad5b2f92536", func := "beadlayer/bllaw2.HeightsChosen", spec := "heightsChosen", unfollowed := true, recurses := true, plainKeys := false, apart := false }
def HeightsChosenSaid : Prop := heightsChosenRow.holds Tryz.pinned (OpenSpec.ofChange heightsChosenSpec)

/-- ITS FALSE NEIGHBOUR: 'it returns false'. Refute it at one input. -/
def heightsChosenWrong : ChangeSpec := { name := "heightsChosen", fn := fun _ => fun
  | [d] => { results := [.lit (.bool false)], args := [d] }
  | _ => none }
def HeightsChosenWrongFalsely : Prop := heightsChosenRow.holds Tryz.pinned (OpenSpec.ofChange heightsChosenWrong)

/- THE SECOND FORM. 'bulk': how many values and letters a reading holds, each counted each time it is reached (what is shared counts as often as it is met; a slice's spare places count too). A statement '..UptoSaid' is the law's where the arguments, and the package variables that the reading takes, are together of bulk at most 1048576: NARROWER than '..Said'. Prove '..Said' where nothing that the law and all that it calls make is longer than what came in: it says more and counts as full. Else prove '..UptoSaid'. A law counts once. -/
mutual
def uptoBulk {H : Type} : DataW H → Nat
  | .lit (.string bytes) => bytes.length + 1
  | .lit _ => 1
  | .nil => 1
  | .ptr d => uptoBulk d + 1
  | .slice elems spare => uptoBulkAll elems + uptoBulkAll spare + 1
  | .agg parts => uptoBulkAll parts + 1
  | .iface _ d => uptoBulk d + 1
  | .map entries => uptoBulkEntries entries + 1
  | .held _ => 1
def uptoBulkAll {H : Type} : List (DataW H) → Nat
  | [] => 0
  | d :: r => uptoBulk d + uptoBulkAll r
def uptoBulkEntries {H : Type} : List (Lit × DataW H) → Nat
  | [] => 0
  | x :: r => uptoBulkEntry x + uptoBulkEntries r
def uptoBulkEntry {H : Type} : Lit × DataW H → Nat
  | (.string bytes, d) => bytes.length + uptoBulk d + 1
  | (_, d) => uptoBulk d + 1
 end
def uptoSmall : (H : Type) → List (DataW H) → Bool := fun _ ds => decide (uptoBulkAll ds ≤ 1048576)
def OpenSpec.upto (s : _root_.Go.ChangeSpec) : _root_.Go.OpenSpec := { _root_.Go.OpenSpec.ofChange s with cond := some uptoSmall }

/-- 'bllaw2.RingsRounded', WHERE WHAT IT READS IS OF BULK AT MOST 1048576: true; the input reads as it did. -/
def ringsRoundedUptoRow : OpenClaim := { program := "ytlblimbelfenaaagreat", sum := "1a5e005bd1d9d63cdde75301b9b0acee2e105f732f3c2caaa1344ad5b2f92536", func := "beadlayer/bllaw2.RingsRounded", spec := "ringsRounded", unfollowed := true, recurses := true, plainKeys := false, apart := false, narrowed := true }
def RingsRoundedUptoSaid : Prop := ringsRoundedUptoRow.holds Tryz.pinned (OpenSpec.upto ringsRoundedSpec)

/-- 'bllaw2.ContoursChained', WHERE WHAT IT READS IS OF BULK AT MOST 1048576: true; the input reads as it did. -/
def contoursChainedUptoRow : OpenClaim := { program := "ytlblimbelfenaaagreat", sum := "1a5e005bd1d9d63cdde75301b9b0acee2e105f732f3c2caaa1344ad5b2f92536", func := "beadlayer/bllaw2.ContoursChained", spec := "contoursChained", unfollowed := true, recurses := true, plainKeys := false, apart := false, narrowed := true }
def ContoursChainedUptoSaid : Prop := contoursChainedUptoRow.holds Tryz.pinned (OpenSpec.upto contoursChainedSpec)

/-- 'bllaw2.HeightsChosen', WHERE WHAT IT READS IS OF BULK AT MOST 1048576: true; the input reads as it did. -/
def heightsChosenUptoRow : OpenClaim := { program := "ytlblimbelfenaaagreat", sum := "1a5e005bd1d9d63cdde75301b9b0acee2e105f732f3c2caaa1344ad5b2f92536", func := "beadlayer/bllaw2.HeightsChosen", spec := "heightsChosen", unfollowed := true, recurses := true, plainKeys := false, apart := false, narrowed := true }
def HeightsChosenUptoSaid : Prop := heightsChosenUptoRow.holds Tryz.pinned (OpenSpec.upto heightsChosenSpec)

end Rows
end Go.Proofs.YtlblimbelfenaaaGreat
