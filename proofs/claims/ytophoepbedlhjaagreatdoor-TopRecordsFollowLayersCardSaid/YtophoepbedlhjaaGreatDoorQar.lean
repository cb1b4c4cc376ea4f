/- From a walk by value to a tied card, for rows that list variables of their own. -/
import Derived.Test.YtophoepbedlhjaaGreatDoorQaq
import Derived.Test.YtophoepbedlhjaaGreatDoorRows
import Derived.Test.YtophoepbedlhjaaGreatDoorCards
import Derived.Test.YtophoepbedlhjaaGreatDoorTie
import Derived.Lay
import Derived.SevenTiedAt
import Derived.LaidMore
import Derived.Stop.Joined
set_option linter.unusedSimpArgs false
set_option linter.unusedVariables false
namespace Go.Proofs.YtophoepbedlhjaaGreatDoor
open Go Go.ChangeShapes Go.WideShapes Go.ChangeAt Go.RowKit
set_option maxRecDepth 100000
theorem zP9:laidOutB Tryz.pinned.checked.prog=true:=by kernel_rfl
theorem zo7:mapsRowed Tryz.pinned.checked.prog=true:=by kernel_rfl
theorem kc_heard:Tryz.pinned.checked.prog.stopsHeard=true:=by kernel_rfl
theorem kc_enter:Tryz.pinned.checked.prog.mayEnter=true:=by kernel_rfl
theorem zf11 {P:Program} (h:P.funcs.any Func.goes=false) (c:OpenClaim):false=c.goesBy P:=by
 have hg:(fun g:FuncId=>(P.funcs[g]?).any Func.goes)=fun _=>false:=funext fun g=>by
  cases hq:P.funcs[g]? with
  | none=>rfl
  | some fn=>
   obtain⟨h1,h2⟩:=Array.getElem?_eq_some_iff.1 hq
   have:=(Array.any_eq_false.1 h) g h1
   rw[h2] at this
   simpa using this
 have hp:P.goes=fun _=>false:=funext fun f=>by
  unfold Program.goes
  rw[h,hg]
  simp
 unfold OpenClaim.goesBy Program.goesAt Program.goesFrom
 rw[hp]
 cases P.funcNamed c.func <;> cases c.start <;> simp
theorem kc_goes:Tryz.pinned.checked.prog.funcs.any Func.goes=false:=by kernel_rfl
end Go.Proofs.YtophoepbedlhjaaGreatDoor
