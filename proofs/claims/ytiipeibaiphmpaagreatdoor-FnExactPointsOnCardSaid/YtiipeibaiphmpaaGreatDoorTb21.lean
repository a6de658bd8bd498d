/- Texts of this claim: Zl1. -/
import Derived.Test.YtiipeibaiphmpaaGreatDoorTb71
import Derived.Test.YtiipeibaiphmpaaGreatDoorTb38
set_option linter.unusedVariables false
set_option linter.unusedSimpArgs false
set_option maxHeartbeats 4000000
namespace Go.Vai
theorem take_encPl (l:List Pt):List.take l.length (encPs l) = encPs l:=List.take_of_length_le (by simp)
@[simp] theorem flat_encP' (p:Pt):flatC (encP p) = True:=eq_true (flat_encP p)
@[simp] theorem encPs_at (l:List Pt) (k:Nat) (h:k < (encPs l).length):(encPs l)[k] = encP (nth l k):=by
 have h':k < l.length:=by simpa using h
 have:=encPs_get h'
 rw [List.getElem?_eq_getElem h] at this
 exact Option.some.inj this
@[simp] theorem encP_len6 (p:Pt):(encP p).length = 6:=rfl
theorem typedPts {n:Nat} {el:List IV} (h:Typed E n 22 el):∃ l:List Pt,el = [.sl (encPs l)] ∧ l.length ≤ maxLen :=
 typedSlice k22 (fun _ _ h=>let ⟨p,hp,_⟩:=typedPt h; ⟨p,hp⟩) h
theorem c42 (ls:List Pt) (n:Int) (h0:0 ≤ n) (h1:n ≤ 1048576) (h:(ls.length:Int) ≤ 9223372036854775807):PC E 42 [.i (.sl (encPs ls)),.i (.int .i64 n)] [.i (.int .i64 (if n - ls.length < 0 then -1 else n - ls.length))]:=by
 refine zP hE Proofs.Tryz.func42 Proofs.Tryz.ntmps42 rfl rfl ?_
 simp (maxSteps:=999999) (disch:=first|exact {}|omega|simp) [zS]
 (first | refine Gd.dec (fun h2=>?_) (fun h2=>?_) | refine Gd.intro (fun h2=>?_) (fun h2=>?_)) <;> simp (maxSteps:=999999) (disch:=first|exact {}|omega|simp) [zS,h2]
theorem c47 (ls:List Pt) (h:(ls.length:Int) ≤ 1048576):PC E 47 [.i (.sl (encPs ls))] [.own 6 (encPs ls)]:=by
 refine zP hE Proofs.Tryz.func47 Proofs.Tryz.ntmps47 rfl rfl ?_
 simp (maxSteps:=999999) (disch:=first|exact {}|omega|simp) [zS]
 have hl:(encPs ls).length = ls.length:=by simp
 refine XL.by hE (ι:={ k:Nat // k ≤ ls.length }) (fun k=>⟨[(3,.own 7 0 ls.length),(4,.i (.int .i64 k.1)),(0,.i (.sl (encPs ls)))],
  [(7,⟨6,fill (encPs ls) [.int .i64 0,.int .i64 0,.int .i64 0,.int .i64 0,.int .i64 0,.int .i64 0] k.1⟩)]⟩) (fun k=>ls.length - k.1) ⟨0,Nat.zero_le _⟩ ⟨by simp,by simp [fill_zero],by simp⟩ (by kernel_rfl) ?_
 rintro ⟨k,hk⟩
 by_cases hlt:k < ls.length
 ·have hz:=fill_get (encPs ls) [.int .i64 0,.int .i64 0,.int .i64 0,.int .i64 0,.int .i64 0,.int .i64 0] k (by omega)
  have hs:=fill_set (encPs ls) [.int .i64 0,.int .i64 0,.int .i64 0,.int .i64 0,.int .i64 0,.int .i64 0] k (encP (nth ls k)) (encPs_get hlt)
  simp (maxSteps:=999999) (disch:=first|exact {}|omega|simp) [zS,hlt,encPs_get hlt]
  refine zC (c99 (nth ls k)) ?_
  simp [encP] at hs
  simp (maxSteps:=999999) (disch:=first|exact {}|omega|simp) [zS,hlt,hz,hs,encP]
  (refine ⟨⟨k + 1,by omega⟩,by (simp; try omega), ?_⟩; constructor <;> (simp (maxSteps:=999999) (disch:=first|exact {}|omega|simp) [zS]) <;> (try omega))
 ·have hf:=fill_all (encPs ls) [.int .i64 0,.int .i64 0,.int .i64 0,.int .i64 0,.int .i64 0,.int .i64 0] k (by omega)
  simp (maxSteps:=999999) (disch:=first|exact {}|omega|simp) [zS,hlt,hf,take_encPl]
theorem c30 (ls ms:List Pt) (h:(ls.length:Int) ≤ 1048576) (hm:(ms.length:Int) ≤ 1048576):PC E 30 [.i (.sl (encPs ls)),.i (.sl (encPs ms))] [.i (.bool (decide (ls = ms)))]:=by
 refine zP hE Proofs.Tryz.func30 Proofs.Tryz.ntmps30 rfl rfl ?_
 simp (maxSteps:=999999) (disch:=first|exact {}|omega|simp) [zS]
 (first | refine Gd.dec (fun h1=>?_) (fun h1=>?_) | refine Gd.intro (fun h1=>?_) (fun h1=>?_)) <;> simp (maxSteps:=999999) (disch:=first|exact {}|omega|simp) [zS,h1]
 rotate_left
 ·intro e; subst e; exact h1 rfl
 refine XL.by hE (ι:={ k:Nat // k ≤ ls.length ∧ ls.take k = ms.take k }) (fun p=>⟨[(5,.i (.int .i64 p.1)),(0,.i (.sl (encPs ls))),(1,.i (.sl (encPs ms)))],[]⟩) (fun p=>ls.length - p.1) ⟨0,by simp⟩
  ⟨by simp,by simp,by simp⟩ (by kernel_rfl) ?_
 rintro ⟨k,hk,he⟩
 have hl:ls.length = ms.length:=by omega
 by_cases hlt:k < ls.length
 ·have hlt':k < ms.length:=by omega
  simp (maxSteps:=999999) (disch:=first|exact {}|omega|simp) [zS,hlt,hlt',encPs_get hlt,encPs_get hlt']
  refine zC (c81 (nth ls k) (nth ms k)) ?_
  simp (maxSteps:=999999) (disch:=first|exact {}|omega|simp) [zS,hlt,hlt']
  (first | refine Gd.dec (fun h4=>?_) (fun h4=>?_) | refine Gd.intro (fun h4=>?_) (fun h4=>?_)) <;> simp (maxSteps:=999999) (disch:=first|exact {}|omega|simp) [zS,h4]
  ·have:ls.take (k + 1) = ms.take (k + 1):=by
    rw [nth_eq hlt,nth_eq hlt'] at h4
    rw [List.take_succ_eq_append_getElem hlt,List.take_succ_eq_append_getElem hlt',he,h4]
   (refine ⟨⟨k + 1,by omega,this⟩,by (simp; try omega), ?_⟩; constructor <;> (simp (maxSteps:=999999) (disch:=first|exact {}|omega|simp) [zS]) <;> (try omega))
  ·intro e; subst e; exact h4 rfl
 ·obtain rfl:k = ls.length:=by omega
  rw [List.take_of_length_le (by omega),List.take_of_length_le (by omega)] at he
  simp (maxSteps:=999999) (disch:=first|exact {}|omega|simp) [zS,hl,he]
end Go.Vai
