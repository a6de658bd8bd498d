/- Texts of this claim: ZvF. -/
import Derived.Test.YtiipeibaiphmpaaGreatDoorTv19
import Derived.Test.YtiipeibaiphmpaaGreatDoorRows
import Derived.WalkKit
import Derived.ProofKit
import Derived.JoinedCond
import Derived.SevenTiedAt
set_option linter.unusedVariables false
set_option maxRecDepth 100000
namespace Go.Vai
open Go.ChangeShapes Go.WideShapes Go.ChangeAt Go.RowKit
theorem pf_laid:laidOutB Proofs.YtiipeibaiphmpaaGreatDoor.Tryz.pinned.checked.prog = true:=by kernel_rfl
theorem pf_maps:mapsRowed Proofs.YtiipeibaiphmpaaGreatDoor.Tryz.pinned.checked.prog = true:=by kernel_rfl
theorem pf_stops:Proofs.YtiipeibaiphmpaaGreatDoor.Tryz.pinned.checked.prog.stops = []:=by kernel_rfl
theorem pf_knobs:Proofs.YtiipeibaiphmpaaGreatDoor.Tryz.pinned.checked.prog.stopKnobs = []:=by kernel_rfl
theorem pf_keys:Proofs.YtiipeibaiphmpaaGreatDoor.Tryz.pinned.checked.prog.plainKeys = true:=by kernel_rfl
theorem pf_heard:Proofs.YtiipeibaiphmpaaGreatDoor.Tryz.pinned.checked.prog.stopsHeard = true:=by kernel_rfl
theorem pf_enter:Proofs.YtiipeibaiphmpaaGreatDoor.Tryz.pinned.checked.prog.mayEnter = true:=by kernel_rfl
theorem pf_lifts:Proofs.YtiipeibaiphmpaaGreatDoor.Tryz.pinned.checked.prog.liftsFinal = false:=by kernel_rfl
theorem pf_make:Proofs.YtiipeibaiphmpaaGreatDoor.Tryz.pinned.checked.prog.make = some .cut:=by kernel_rfl
theorem pf_looks:Proofs.YtiipeibaiphmpaaGreatDoor.Tryz.pinned.checked.prog.looks [] = false:=by kernel_rfl
end Go.Vai
