/- Texts of this claim: Zt6, Zt7, Zt8, Zt9, Zt10. -/
import Derived.Test.YtiipeibaiphmpaaGreatDoorSvE
import Derived.Test.YtiipeibaiphmpaaGreatDoorSv18
set_option linter.unusedVariables false
set_option linter.unusedSimpArgs false
set_option maxHeartbeats 4000000
namespace Go.Vai
structure Nd where
 kind:Int
 var:Int
 value:Int
 rule:Int
 deriving DecidableEq,Inhabited
def encNd (x:Nd):List IV:=[.int .i64 x.kind,.int .i64 x.var,.int .i64 x.value,.int .i64 x.rule]
@[simp] theorem encNd_len (x:Nd):(encNd x).length = 4:=rfl
@[simp] theorem encNd_take (x:Nd):(encNd x).take 4 = encNd x:=rfl
end Go.Vai
namespace Go.Vai
end Go.Vai
namespace Go.Vai
end Go.Vai
namespace Go.Vai
end Go.Vai
namespace Go.Vai
def encI (n:Int):List IV:=[.int .i64 n]
@[simp] theorem encI_len (x:Int):(encI x).length = 1:=rfl
theorem typedSlice {α:Type} {enc:α → List IV} {t u:TypeId} (hk:tkOf E t = some (.slice u)) (he:∀ n el,Typed E n u el → ∃ x,el = enc x) {n:Nat} {el:List IV} (h:Typed E n t el) :
  ∃ xs:List α,el = [.sl (xs.map enc)] ∧ xs.length ≤ maxLen:=by
 cases n with
 | zero=>exact h.elim
 | succ n =>
  simp only [Typed,hk] at h
  obtain ⟨els,rfl,hl,hx⟩:=h
  obtain ⟨xs,rfl⟩:=exists_map enc els fun el hel=>he n el (hx el hel)
  exact ⟨xs,rfl,by simpa using hl⟩
theorem take_eq_of {α:Type} {ls ms:List α} (h1:ls.length = ms.length) {k:Nat} (hk:ls.length ≤ k) (h:ls.take k = ms.take k):ls = ms:=by
 rwa [List.take_of_length_le hk,List.take_of_length_le (by omega)] at h
theorem take_step {α:Type} {ls ms:List α} {k:Nat} (h1:k < ls.length) (h2:k < ms.length) (h:ls.take k = ms.take k) (he:ls[k] = ms[k]):ls.take (k + 1) = ms.take (k + 1):=by
 rw [List.take_succ_eq_append_getElem h1,List.take_succ_eq_append_getElem h2,h,he]
theorem c16 (ls ms:List Int) (h:(ls.length:Int) ≤ 1048576) (hm:(ms.length:Int) ≤ 1048576):PC E 16 [.i (.sl (ls.map encI)),.i (.sl (ms.map encI))] [.i (.bool (decide (ls = ms)))]:=by
 refine zP hE Proofs.Tryz.func16 Proofs.Tryz.ntmps16 rfl rfl ?_
 simp (maxSteps:=999999) (disch:=first|exact {}|omega|simp) [zS]
 (first | refine Gd.dec (fun h1=>?_) (fun h1=>?_) | refine Gd.intro (fun h1=>?_) (fun h1=>?_)) <;> simp (maxSteps:=999999) (disch:=first|exact {}|omega|simp) [zS,h1]
 rotate_left
 ·intro e; subst e; exact h1 rfl
 refine XL.by hE (ι:={ k:Nat // k ≤ ls.length ∧ ls.take k = ms.take k }) (fun p=>⟨[(5,.i (.int .i64 p.1)),(0,.i (.sl (ls.map encI))),(1,.i (.sl (ms.map encI)))],[]⟩) (fun p=>ls.length - p.1) ⟨0,by simp⟩
  ⟨by simp,by simp,by simp⟩ (by kernel_rfl) ?_
 rintro ⟨k,hk,he⟩
 have hl:ls.length = ms.length:=by omega
 by_cases hlt:k < ls.length
 ·have hlt':k < ms.length:=by omega
  simp (maxSteps:=999999) (disch:=first|exact {}|omega|simp) [zS,hlt,hlt',encI]
  (first | refine Gd.dec (fun h4=>?_) (fun h4=>?_) | refine Gd.intro (fun h4=>?_) (fun h4=>?_)) <;> simp (maxSteps:=999999) (disch:=first|exact {}|omega|simp) [zS,h4]
  ·(refine ⟨⟨k + 1,by omega,take_step hlt hlt' he h4⟩,by (simp; try omega), ?_⟩; constructor <;> (simp (maxSteps:=999999) (disch:=first|exact {}|omega|simp) [zS]) <;> (try omega))
  ·intro e; subst e; exact h4 rfl
 ·obtain rfl:ls = ms:=take_eq_of hl (by omega) he
  simp (maxSteps:=999999) (disch:=first|exact {}|omega|simp) [zS,hlt]
structure Ct where
 kind:Int
 a:Int
 b:Int
 order:List Int
 nodes:List Nd
 deriving DecidableEq
def encC (x:Ct):List IV:=[.int .i64 x.kind,.int .i64 x.a,.int .i64 x.b,.sl (x.order.map encI),.sl (x.nodes.map encNd)]
@[simp] theorem encC_len (x:Ct):(encC x).length = 5:=rfl
end Go.Vai
