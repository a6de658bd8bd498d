/- Texts of this claim: Zp14. -/
import Derived.Test.YtiipeibaiphmpaaGreatDoorTb16
set_option linter.unusedVariables false
set_option linter.unusedSimpArgs false
set_option maxHeartbeats 4000000
namespace Go.Vai
def encG (l:List Pt):List IV:=[.sl (encPs l)]
@[simp] theorem encG_len (x:List Pt):(encG x).length = 1:=rfl
@[simp] theorem encG_take (x:List Pt):(encG x).take 1 = encG x:=rfl
namespace Gq
open Pq
end Gq
open Gq
end Go.Vai
