/- Texts of this claim: Zp5. -/
import Derived.Test.YtmgdmldhgphnmaaGreatDoorUb8
set_option linter.unusedVariables false
set_option linter.unusedSimpArgs false
set_option maxHeartbeats 4000000
namespace Go.Vai
def sideS (p q:Pt):Int:=if dirR (pminus q p) < 8 then 1 else -1
theorem sideS_or (p q:Pt):sideS p q = 1 ∨ sideS p q = -1:=by unfold sideS; split <;> simp
theorem rot0_len (l:List Pt):(rot0 l).length = l.length:=by
 unfold rot0; simp
 by_cases h:l = []
 ·subst h; simp
 ·have:least l < l.length:=leastF_lt (Nat.le_refl _) (List.length_pos_iff.2 h)
  omega
theorem rot0_mem {l:List Pt} {p:Pt} (h:p ∈ rot0 l):p ∈ l:=by
 unfold rot0 at h
 rcases List.mem_append.1 h with h | h
 ·exact List.mem_of_mem_drop h
 ·exact List.mem_of_mem_take h
end Go.Vai
