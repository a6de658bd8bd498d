/- Texts of this claim: Zy1. -/
import Derived.Test.YtiipeibaiphmpaaGreatDoorTb21
import Derived.Test.YtiipeibaiphmpaaGreatDoorTb32
set_option linter.unusedVariables false
set_option linter.unusedSimpArgs false
set_option maxHeartbeats 4000000
set_option maxRecDepth 20000
namespace Go.Vai
def mixR (f:Nat → List IV) (els:List (List IV)) (q:Nat):List (List IV):=(List.range q).map f ++ els.drop q
theorem mixR_zero (f:Nat → List IV) (els:List (List IV)):mixR f els 0 = els:=by simp [mixR]
theorem mixR_all (f:Nat → List IV) (els:List (List IV)):mixR f els els.length = (List.range els.length).map f:=by simp [mixR]
theorem mixR_len (f:Nat → List IV) (els:List (List IV)) (q:Nat) (h:q ≤ els.length):(mixR f els q).length = els.length:=by simp [mixR]; omega
theorem mixR_get (f:Nat → List IV) (els:List (List IV)) (q:Nat) (h:q < els.length):(mixR f els q)[q]? = some els[q]:=by
 simp only [mixR]
 rw [List.getElem?_append_right (by simp)]; simp [h]
theorem mixR_set (f:Nat → List IV) (els:List (List IV)) (q:Nat) (h:q < els.length):(mixR f els q).set q (f q) = mixR f els (q + 1):=by
 simp only [mixR]
 rw [List.set_append_right _ _ (by simp),List.length_map,List.length_range,Nat.sub_self,List.drop_eq_getElem_cons h,List.set_cons_zero,List.range_succ]
 simp
def r6 (k:Int):List IV:=[.int .i64 k,.int .i64 (k + 1),.int .i64 (k + 1 + 1),.int .i64 (k + 1 + 1 + 1),.int .i64 (k + 1 + 1 + 1 + 1),.int .i64 (k + 1 + 1 + 1 + 1 + 1)]
def m6 (k:Int) (i:Nat):List IV:=r6 (k + 6 * (i:Int))
def r3 (k:Int):List IV:=[.int .i64 k,.int .i64 (k + 1),.int .i64 (k + 1 + 1)]
def m3 (k:Int) (i:Nat):List IV:=r3 (k + 3 * (i:Int))
theorem c31 (l:List Pt) (k:Int) (h0:0 ≤ k) (h1:k + 6 * l.length ≤ 1099511627776):PM E 31 [.sl ⟨6,encPs l⟩,.i (.i (.int .i64 k))] [⟨6,(List.range l.length).map (m6 k)⟩] [.i (.int .i64 (k + 6 * l.length))]:=by
 have hel:(encPs l).length = l.length:=by simp [encPs]
 refine PM_start hE Proofs.Tryz.func31 rfl rfl Proofs.Tryz.ntmps31 (by kernel_rfl) (by kernel_rfl) (by simp) (by simp [hel]) ?_
 simp (maxSteps:=999999) (disch:=first|exact {}|omega|simp) [zS,hel]
 refine XL.by hE (ι:={ q:Nat // q ≤ l.length }) (fun q=>⟨[(0,.own 700000 0 l.length),(1,.i (.int .i64 (k + 6 * (q.1:Int)))),(5,.i (.int .i64 q.1))],[(700000,⟨6,mixR (m6 k) (encPs l) q.1⟩)]⟩)
  (fun q=>l.length - q.1) ⟨0,Nat.zero_le _⟩ ⟨by simp,by simp [mixR_zero],by simp⟩ (by kernel_rfl) ?_
 rintro ⟨q,hq⟩
 by_cases hlt:q < l.length
 ·have hA:=mixR_len (m6 k) (encPs l) q (by omega)
  have hg:=mixR_get (m6 k) (encPs l) q (by omega)
  have hs:(mixR (m6 k) (encPs l) q).set q (r6 (k + 6 * (q:Int))) = mixR (m6 k) (encPs l) (q + 1):=mixR_set (m6 k) (encPs l) q (by omega)
  have hp:(encPs l)[q]'(by omega) = encP l[q]:=by simp [encPs]
  rw [hp] at hg
  rw [hel] at hA
  obtain ⟨hg1,hg2⟩:=List.getElem?_eq_some_iff.1 hg
  unfold r6 at hs
  simp (maxSteps:=999999) (disch:=first|exact {}|omega|simp) [zS,hlt,hA,hg2,encP]
  (refine ⟨⟨q + 1,by omega⟩,by (simp; try omega), ?_⟩; constructor <;> (simp (maxSteps:=999999) (disch:=first|exact {}|omega|simp) [zS,hs]) <;> (try omega))
 ·obtain rfl:q = l.length:=by omega
  have:=mixR_all (m6 k) (encPs l)
  rw [hel] at this
  simp (maxSteps:=999999) (disch:=first|exact {}|omega|simp) [zS,hlt,this]
theorem mark0P (s:Nat) (k:Int):PM E 31 [.sl ⟨s,[]⟩,.i (.i (.int .i64 k))] [⟨s,[]⟩] [.i (.int .i64 k)]:=by
 refine PM_start hE Proofs.Tryz.func31 rfl rfl Proofs.Tryz.ntmps31 (by kernel_rfl) (by kernel_rfl) (by simp) (by simp) ?_
 simp (maxSteps:=999999) (disch:=first|exact {}|omega|simp) [zS]
 refine XL.by hE (ι:=Unit) (fun _=>⟨[(0,.own 700000 0 0),(1,.i (.int .i64 k)),(5,.i (.int .i64 0))],[(700000,⟨s,[]⟩)]⟩)
  (fun _=>0) () ⟨by simp,by simp,by simp⟩ (by kernel_rfl) ?_
 rintro ⟨⟩
 simp (maxSteps:=999999) (disch:=first|exact {}|omega|simp) [zS]
theorem numP (l:List Pt):∀ el ∈ encPs l,∀ x ∈ el,x.num = true:=fun el hel x hx=>by
 obtain ⟨a,-,rfl⟩:=List.mem_map.1 hel
 simp [encP,encN] at hx
 rcases hx with rfl | rfl | rfl | rfl | rfl | rfl <;> rfl
theorem PDPts (l:List Pt) (h:(l.length:Int) ≤ 1048576):PD E 47 [.i (.sl (encPs l))] (.i (.sl (encPs l))):=PD.of_own (c47 l h) (numP l)
theorem PWPts (l:List Pt) (k:Int) (h0:0 ≤ k) (h1:k + 6 * l.length ≤ 1099511627776):PW E 31 (.i (.sl (encPs l))) k (k + 6 * l.length) :=
 PW.of_pm (numP l) (fun el hel=>by obtain ⟨a,-,rfl⟩:=List.mem_map.1 hel; rfl) (c31 l k h0 h1) fun he s=>by
  have:l = []:=by simpa [encPs] using he
  subst this
  refine ⟨⟨s,[]⟩, ?_⟩
  have:=mark0P s k
  simpa using this
end Go.Vai
