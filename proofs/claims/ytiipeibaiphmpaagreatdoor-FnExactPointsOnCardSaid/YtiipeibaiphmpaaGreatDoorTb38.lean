/- Texts of this claim: Zt6, Zt7, Zt8, Zt9, Zt10. -/
import Derived.Test.YtiipeibaiphmpaaGreatDoorTvE
import Derived.Test.YtiipeibaiphmpaaGreatDoorTv18
set_option linter.unusedVariables false
set_option linter.unusedSimpArgs false
set_option maxHeartbeats 4000000
namespace Go.Vai
structure Nd where
 kind:Int
 var:Int
 value:Int
 rule:Int
 deriving DecidableEq,Inhabited
def encNd (x:Nd):List IV:=[.int .i64 x.kind,.int .i64 x.var,.int .i64 x.value,.int .i64 x.rule]
@[simp] theorem encNd_len (x:Nd):(encNd x).length = 4:=rfl
@[simp] theorem encNd_take (x:Nd):(encNd x).take 4 = encNd x:=rfl
end Go.Vai
namespace Go.Vai
end Go.Vai
namespace Go.Vai
end Go.Vai
namespace Go.Vai
end Go.Vai
namespace Go.Vai
def encI (n:Int):List IV:=[.int .i64 n]
@[simp] theorem encI_len (x:Int):(encI x).length = 1:=rfl
theorem typedSlice {α:Type} {enc:α → List IV} {t u:TypeId} (hk:tkOf E t = some (.slice u)) (he:∀ n el,Typed E n u el → ∃ x,el = enc x) {n:Nat} {el:List IV} (h:Typed E n t el) :
  ∃ xs:List α,el = [.sl (xs.map enc)] ∧ xs.length ≤ maxLen:=by
 cases n with
 | zero=>exact h.elim
 | succ n =>
  simp only [Typed,hk] at h
  obtain ⟨els,rfl,hl,hx⟩:=h
  obtain ⟨xs,rfl⟩:=exists_map enc els fun el hel=>he n el (hx el hel)
  exact ⟨xs,rfl,by simpa using hl⟩
structure Ct where
 kind:Int
 a:Int
 b:Int
 order:List Int
 nodes:List Nd
 deriving DecidableEq
def encC (x:Ct):List IV:=[.int .i64 x.kind,.int .i64 x.a,.int .i64 x.b,.sl (x.order.map encI),.sl (x.nodes.map encNd)]
@[simp] theorem encC_len (x:Ct):(encC x).length = 5:=rfl
end Go.Vai
