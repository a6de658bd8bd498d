/- Texts of this claim: Zp7, Zp8, Zp9. -/
import Derived.Test.YtmgdmldhgphnmaaGreatDoorUb10
import Derived.Test.YtmgdmldhgphnmaaGreatDoorUv18
import Derived.Test.YtmgdmldhgphnmaaGreatDoorUb1
set_option linter.unusedVariables false
set_option linter.unusedSimpArgs false
set_option maxHeartbeats 4000000
namespace Go.Vai
theorem c211 (l:List Pt) (hl:(l.length:Int) ≤ 1048576):PC E 211 [.i (.sl (encPs l))] [.own 6 (encPs l)]:=by
 refine PC_start hE Proofs.Tryz.func211 rfl rfl Proofs.Tryz.ntmps211 (by kernel_rfl) (by kernel_rfl) (by simp) ?_
 simp (maxSteps:=999999) (disch:=first|exact {}|omega|simp) [Lw,Lm,Lt,Lo,Ln,allLen]
 refine XL.by hE (ι:={ k:Nat // k ≤ l.length }) (fun k=>⟨[(0,.i (.sl (encPs l))),(3,if k.1 = 0 then .esl else .own 19 0 k.1),(4,.i (.int .i64 k.1))],if k.1 = 0 then [] else [(19,⟨6,encPs (l.take k.1)⟩)]⟩)
  (fun k=>l.length - k.1) ⟨0,Nat.zero_le _⟩ ⟨by simp,by simp,by simp⟩ (by kernel_rfl) ?_
 rintro ⟨k,hk⟩
 have hln:(l.take k).length = k:=by simp; omega
 by_cases hlt:k < l.length
 ·have lP:∀ p:Pt,(encP p).length = 6:=fun _=>rfl
  have hst:encPs (l.take (k + 1)) = encPs (l.take k) ++ [encP (nth l k)]:=by
   rw [List.take_succ_eq_append_getElem hlt,encPs_append,nth_eq hlt]; rfl
  have htk:List.take k (encPs (l.take k)) = encPs (l.take k):=List.take_of_length_le (by simp; omega)
  by_cases h0:k = 0
  ·subst h0
   simp (maxSteps:=999999) (disch:=first|exact {}|omega|simp) [Lw,Lm,Lt,Lo,Ln,allLen,hlt,encPs_get hlt]
   refine CallK.of (c163 (nth l 0)) (by first | exact .inl rfl | exact .inr (by simp)) (by simp) ?_
   simp (maxSteps:=999999) (disch:=first|exact {}|omega|simp) [Lw,Lm,Lt,Lo,Ln,allLen,lP,most]
   have h10:List.take 1 (List.map encP l) = [encP (nth l 0)]:=by rw [← List.map_take]; simpa [encPs] using hst
   (refine ⟨⟨0 + 1,by omega⟩,by (simp; try omega), ?_⟩; constructor <;> (simp (maxSteps:=999999) (disch:=first|exact {}|omega|simp) [Lw,Lm,Lt,Lo,Ln,allLen,encPs,h10]) <;> (try omega))
  ·simp (maxSteps:=999999) (disch:=first|exact {}|omega|simp) [Lw,Lm,Lt,Lo,Ln,allLen,hlt,encPs_get hlt,h0]
   refine CallK.of (c163 (nth l k)) (by first | exact .inl rfl | exact .inr (by simp)) (by simp) ?_
   simp (maxSteps:=999999) (disch:=first|exact {}|omega|simp) [Lw,Lm,Lt,Lo,Ln,allLen,lP,most,show (k:Int) + 1 ≤ 140737488355328 by omega,show ((k:Int) + 1) * 48 ≤ 140737488355328 by omega]
   (refine ⟨⟨k + 1,by omega⟩,by (simp; try omega), ?_⟩; constructor <;> (simp (maxSteps:=999999) (disch:=first|exact {}|omega|simp) [Lw,Lm,Lt,Lo,Ln,allLen,hst,htk]) <;> (try omega))
 ·obtain rfl:k = l.length:=by omega
  by_cases h0:l = []
  ·subst h0; simp (maxSteps:=999999) (disch:=first|exact {}|omega|simp) [Lw,Lm,Lt,Lo,Ln,allLen,encPs]
  ·have h0':¬ l.length = 0:=by simpa using h0
   have htk:List.take l.length (encPs l) = encPs l:=List.take_of_length_le (by simp)
   simp (maxSteps:=999999) (disch:=first|exact {}|omega|simp) [Lw,Lm,Lt,Lo,Ln,allLen,h0,h0',htk]
end Go.Vai
namespace Go.Vai
theorem c238 (d:Int):PC E 238 [.i (.int .i64 d)] [.i (.int .i64 (d % 16))]:=by
 refine PC_start hE Proofs.Tryz.func238 rfl rfl Proofs.Tryz.ntmps238 (by kernel_rfl) (by kernel_rfl) (by simp) ?_
 simp (maxSteps:=999999) (disch:=first|exact {}|omega|simp) [Lw,Lm,Lt,Lo,Ln,allLen,andI_15]
def dl (l:List Pt) (k:Nat):Int:=dirR (pminus (nxt l k) (nth l k))
def bef (l:List Pt) (k:Nat):Int:=if k = 0 then dirR (pminus (nth l 0) (nth l (l.length - 1))) else dl l (k - 1)
theorem dl_range (l:List Pt) (k:Nat):-1 ≤ dl l k ∧ dl l k ≤ 15:=dirR_range _
theorem bef_range (l:List Pt) (k:Nat):-1 ≤ bef l k ∧ bef l k ≤ 15:=by unfold bef; split <;> exact dirR_range _
def okI (l:List Pt) (k:Nat):Bool:=decide (0 ≤ dl l k) && decide (0 ≤ bef l k) && inB ((dl l k - bef l k) % 16) 1 7
def sumI (l:List Pt):Nat → Int
 | 0=>0
 | k + 1=>sumI l k + (dl l k - bef l k) % 16
theorem sumI_range (l:List Pt):∀ k,0 ≤ sumI l k ∧ sumI l k ≤ 15 * k
 | 0=>by simp [sumI]
 | k + 1=>by have:=sumI_range l k; simp only [sumI]; omega
def convI (l:List Pt):Bool:=decide (3 ≤ l.length) && (List.range l.length).all (okI l) && decide (sumI l l.length = 16)
theorem stepAll {f:Nat → Bool} {k:Nat} (h:∀ j,j < k → f j = true) (hk:f k = true):∀ j,j < k + 1 → f j = true:=fun j hj=>by
 rcases Nat.lt_succ_iff_lt_or_eq.1 hj with h' | rfl
 ·exact h j h'
 ·exact hk
theorem convI_no {l:List Pt} {k:Nat} (hk:k < l.length) (h:okI l k = false):convI l = false:=by
 have:(List.range l.length).all (okI l) = false:=by
  rw [← Bool.not_eq_true]; intro hr
  simp only [List.all_eq_true,List.mem_range] at hr
  rw [hr k hk] at h; simp at h
 simp [convI,this]
theorem convI_yes {l:List Pt} (h3:3 ≤ l.length) (h:∀ j,j < l.length → okI l j = true):convI l = decide (sumI l l.length = 16):=by
 have:(List.range l.length).all (okI l) = true:=by simp only [List.all_eq_true,List.mem_range]; exact h
 simp [convI,this,h3]
theorem c139 (l:List Pt) {K M:Nat} (h:∀ p ∈ l,PB K M p) (hK:K ≤ 60) (hM:12 * M ≤ 4611686018427387904) (hl:(l.length:Int) ≤ 1048576):PC E 139 [.i (.sl (encPs l))] [.i (.bool (convI l))]:=by
 refine PC_start hE Proofs.Tryz.func139 rfl rfl Proofs.Tryz.ntmps139 (by kernel_rfl) (by kernel_rfl) (by simp) ?_
 simp (maxSteps:=999999) (disch:=first|exact {}|omega|simp) [Lw,Lm,Lt,Lo,Ln,allLen]
 (first | refine Gd.dec (fun h3=>?_) (fun h3=>?_) | refine Gd.intro (fun h3=>?_) (fun h3=>?_)) <;> simp (maxSteps:=999999) (disch:=first|exact {}|omega|simp) [Lw,Lm,Lt,Lo,Ln,allLen,h3]
 ·have:convI l = false:=by simp [convI]; omega
  rw [this]
 have hlp:0 < l.length:=by omega
 have hlm:l.length - 1 < l.length:=by omega
 have ei:((l.length:Int) - 1).toNat = l.length - 1:=by omega
 have en:¬ ((l.length:Int) - 1 < 0):=by omega
 simp (maxSteps:=999999) (disch:=first|exact {}|omega|simp) [Lw,Lm,Lt,Lo,Ln,allLen,encPs_get hlm,encPs_get hlp,hlp,hlm,ei,en]
 refine CallK.of (c180 (nth l (l.length - 1)) (nth l 0) (h _ (nth_mem hlp)) (h _ (nth_mem hlm)) hK (by omega)) (by first | exact .inl rfl | exact .inr (by simp)) (by simp) ?_
 simp (maxSteps:=999999) (disch:=first|exact {}|omega|simp) [Lw,Lm,Lt,Lo,Ln,allLen]
 refine XL.by hE (ι:={ k:Nat // k ≤ l.length ∧ ∀ j,j < k → okI l j = true }) (fun k=>⟨[(0,.i (.sl (encPs l))),(3,.i (.int .i64 l.length)),(4,.i (.int .i64 (sumI l k.1))),(5,.i (.int .i64 (bef l k.1))),(23,.i (.sl (encPs l))),(24,.i (.int .i64 l.length)),(25,.i (.int .i64 k.1))],[]⟩)
  (fun k=>l.length - k.1) ⟨0,Nat.zero_le _,by simp⟩ ⟨by simp [sumI,bef],by simp,by simp⟩ (by kernel_rfl) ?_
 rintro ⟨k,hk,hr⟩
 have hs:=sumI_range l k
 by_cases hlt:k < l.length
 ·have hmod:(k + 1) % l.length < l.length:=Nat.mod_lt _ (by omega)
  have eq2:(encPs l)[(k + 1) % l.length]? = some (encP (nxt l k)):=encPs_get hmod
  have hne:¬ l = []:=by rintro rfl; simp at hlt
  have rm:((k:Int) + 1).tmod (l.length:Int) = (((k + 1) % l.length:Nat):Int):=by
   rw [Int.tmod_eq_emod_of_nonneg (by omega)]; simp
  have hm0:¬ (((k:Int) + 1) % (l.length:Int) < 0):=by have:=Int.emod_nonneg ((k:Int) + 1) (b:=(l.length:Int)) (by omega); omega
  have hm1:(((k:Int) + 1) % (l.length:Int)).toNat = (k + 1) % l.length:=by
   have:((k:Int) + 1) % (l.length:Int) = (((k + 1) % l.length:Nat):Int):=by simp
   rw [this]; rfl
  have hdl:=dl_range l k
  have hbf:=bef_range l k
  have hd:PC E 180 [.agg (encP (nth l k)),.agg (encP (nxt l k))] [.i (.int .i64 (dl l k))]:=c180 (nth l k) (nxt l k) (h _ (nth_mem hmod)) (h _ (nth_mem hlt)) hK (by omega)
  have hb1:bef l (k + 1) = dl l k:=by simp [bef]
  have hs1:sumI l (k + 1) = sumI l k + (dl l k - bef l k) % 16:=rfl
  have hok:okI l k = (decide (0 ≤ dl l k) && decide (0 ≤ bef l k) && inB ((dl l k - bef l k) % 16) 1 7):=rfl
  simp (maxSteps:=999999) (disch:=first|exact {}|omega|simp) [Lw,Lm,Lt,Lo,Ln,allLen,hlt,encPs_get hlt,hne,rm,hm0,hm1,hmod,eq2]
  refine CallK.of (hd) (by first | exact .inl rfl | exact .inr (by simp)) (by simp) ?_
  simp (maxSteps:=999999) (disch:=first|exact {}|omega|simp) [Lw,Lm,Lt,Lo,Ln,allLen]
  refine CallK.of (c238 (dl l k - bef l k)) (by first | exact .inl rfl | exact .inr (by simp)) (by simp) ?_
  simp (maxSteps:=999999) (disch:=first|exact {}|omega|simp) [Lw,Lm,Lt,Lo,Ln,allLen]
  (first | refine Gd.dec (fun h4=>?_) (fun h4=>?_) | refine Gd.intro (fun h4=>?_) (fun h4=>?_)) <;> simp (maxSteps:=999999) (disch:=first|exact {}|omega|simp) [Lw,Lm,Lt,Lo,Ln,allLen,h4]
  ·rw [convI_no hlt (by rw [hok]; simp; omega)]
  ·(first | refine Gd.dec (fun h5=>?_) (fun h5=>?_) | refine Gd.intro (fun h5=>?_) (fun h5=>?_)) <;> simp (maxSteps:=999999) (disch:=first|exact {}|omega|simp) [Lw,Lm,Lt,Lo,Ln,allLen,h5]
   ·rw [convI_no hlt (by rw [hok]; simp; omega)]
   ·refine CallK.of (c149 _ _ _) (by first | exact .inl rfl | exact .inr (by simp)) (by simp) ?_
    simp (maxSteps:=999999) (disch:=first|exact {}|omega|simp) [Lw,Lm,Lt,Lo,Ln,allLen]
    (first | refine Gd.dec (fun h6=>?_) (fun h6=>?_) | refine Gd.intro (fun h6=>?_) (fun h6=>?_)) <;> simp (maxSteps:=999999) (disch:=first|exact {}|omega|simp) [Lw,Lm,Lt,Lo,Ln,allLen,h6]
    ·(refine ⟨⟨k + 1,by omega,stepAll hr (by rw [hok,h6]; simp; omega)⟩,by (simp; try omega), ?_⟩; constructor <;> (simp (maxSteps:=999999) (disch:=first|exact {}|omega|simp) [Lw,Lm,Lt,Lo,Ln,allLen,hs1,hb1]) <;> (try omega))
    ·rw [convI_no hlt (by rw [hok,h6]; simp)]
 ·obtain rfl:k = l.length:=by omega
  simp (maxSteps:=999999) (disch:=first|exact {}|omega|simp) [Lw,Lm,Lt,Lo,Ln,allLen,convI_yes (by omega) hr]
end Go.Vai
namespace Go.Vai
namespace Pq
def fidx {α:Type} (p:α → Bool) (xs:List α):Int:=match xs.findIdx? p with
 | some i=>i
 | none=>-1
theorem fidx_at {α:Type} {p:α → Bool} {xs:List α} {k:Nat} (hk:k < xs.length) (hno:∀ (j:Nat) (hj:j < xs.length),j < k → p xs[j] = false) (h:p xs[k] = true):fidx p xs = k:=by
 have:xs.findIdx? p = some k:=by
  rw [List.findIdx?_eq_some_iff_getElem]
  exact ⟨hk,h,fun j hj=>by simpa using hno j (by omega) hj⟩
 simp [fidx,this]
theorem fidx_none {α:Type} {p:α → Bool} {xs:List α} (hno:∀ (j:Nat) (hj:j < xs.length),p xs[j] = false):fidx p xs = -1:=by
 have:xs.findIdx? p = none:=by
  rw [List.findIdx?_eq_none_iff]
  intro x hx
  obtain ⟨j,hj,rfl⟩:=List.getElem_of_mem hx
  exact hno j hj
 simp [fidx,this]
theorem step_no {α:Type} {p:α → Bool} {xs:List α} {k:Nat} (hno:∀ (j:Nat) (hj:j < xs.length),j < k → p xs[j] = false) (hk:k < xs.length) (h:p xs[k] = false) :
  ∀ (j:Nat) (hj:j < xs.length),j < k + 1 → p xs[j] = false:=fun j hj hjk=>by
 rcases Nat.lt_succ_iff_lt_or_eq.1 hjk with hj' | rfl
 ·exact hno j hj hj'
 ·exact h
theorem fidx_any {α:Type} {p:α → Bool} {xs:List α}:decide (0 ≤ fidx p xs) = xs.any p:=by
 unfold fidx
 cases h:xs.findIdx? p with
 | none =>
  rw [List.findIdx?_eq_none_iff] at h
  simp
  intro x hx; exact h x hx
 | some i =>
  rw [List.findIdx?_eq_some_iff_getElem] at h
  obtain ⟨hi,hp,-⟩:=h
  simp
  exact ⟨xs[i],List.getElem_mem _,hp⟩
@[simp] theorem immL_caps (H:List (Nat × Obj)):∀ caps:List IV,immL H (caps.map .i) = some (caps.map .i)
 | []=>rfl
 | x :: l=>by simp [immL_caps H l]
theorem c263 (xs:List Pt) (g:FuncId) (caps:List IV) (p:Pt → Bool) (hp:∀ x ∈ xs,PC E g (.agg (encP x) :: caps.map .i) [.i (.bool (p x))]) (h:(xs.length:Int) ≤ 1048576) :
  PC E 263 [.i (.sl (xs.map encP)),.i (.fn g caps)] [.i (.int .i64 (fidx p xs))]:=by
 refine PC_start hE Proofs.Tryz.func263 rfl rfl Proofs.Tryz.ntmps263 (by kernel_rfl) (by kernel_rfl) (by simp) ?_
 simp (maxSteps:=999999) (disch:=first|exact {}|omega|simp) [Lw,Lm,Lt,Lo,Ln,allLen]
 refine XL.by hE (ι:={ k:Nat // k ≤ xs.length ∧ ∀ (j:Nat) (hj:j < xs.length),j < k → p xs[j] = false }) (fun k=>⟨[(0,.i (.sl (xs.map encP))),(1,.i (.fn g caps)),(7,.i (.int .i64 xs.length)),(8,.i (.int .i64 k.1))],[]⟩)
  (fun k=>xs.length - k.1) ⟨0,Nat.zero_le _,by simp⟩ ⟨by simp,by simp,by simp⟩ (by kernel_rfl) ?_
 rintro ⟨k,hk,hno⟩
 by_cases hlt:k < xs.length
 ·simp (maxSteps:=999999) (disch:=first|exact {}|omega|simp) [Lw,Lm,Lt,Lo,Ln,allLen,hlt]
  refine CallK.of (hp xs[k] (List.getElem_mem _)) (by first | exact .inl rfl | exact .inr (by simp)) (by simp) ?_
  simp (maxSteps:=999999) (disch:=first|exact {}|omega|simp) [Lw,Lm,Lt,Lo,Ln,allLen,hlt]
  (first | refine Gd.dec (fun h4=>?_) (fun h4=>?_) | refine Gd.intro (fun h4=>?_) (fun h4=>?_)) <;> simp (maxSteps:=999999) (disch:=first|exact {}|omega|simp) [Lw,Lm,Lt,Lo,Ln,allLen,h4]
  ·simp [fidx_at hlt hno h4]
  ·(refine ⟨⟨k + 1,by omega,step_no hno hlt h4⟩,by (simp; try omega), ?_⟩; constructor <;> (simp (maxSteps:=999999) (disch:=first|exact {}|omega|simp) [Lw,Lm,Lt,Lo,Ln,allLen]) <;> (try omega))
 ·obtain rfl:k = xs.length:=by omega
  simp (maxSteps:=999999) (disch:=first|exact {}|omega|simp) [Lw,Lm,Lt,Lo,Ln,allLen,fidx_none fun j hj=>hno j hj hj]
theorem c185 (xs:List Pt) (g:FuncId) (caps:List IV) (p:Pt → Bool) (hp:∀ x ∈ xs,PC E g (.agg (encP x) :: caps.map .i) [.i (.bool (p x))]) (h:(xs.length:Int) ≤ 1048576) :
  PC E 185 [.i (.sl (xs.map encP)),.i (.fn g caps)] [.i (.bool (xs.any p))]:=by
 refine PC_start hE Proofs.Tryz.func185 rfl rfl Proofs.Tryz.ntmps185 (by kernel_rfl) (by kernel_rfl) (by simp) ?_
 simp (maxSteps:=999999) (disch:=first|exact {}|omega|simp) [Lw,Lm,Lt,Lo,Ln,allLen]
 refine CallK.of (c263 xs g caps p hp h) (by first | exact .inl rfl | exact .inr (by simp)) (by simp) ?_
 simp (maxSteps:=999999) (disch:=first|exact {}|omega|simp) [Lw,Lm,Lt,Lo,Ln,allLen,fidx_any]
end Pq
open Pq
theorem c186 (p:Pt):PC E 186 [.agg (encP p)] [.i (.bool (!vP p))]:=by
 refine PC_start hE Proofs.Tryz.func186 rfl rfl Proofs.Tryz.ntmps186 (by kernel_rfl) (by kernel_rfl) (by simp) ?_
 simp (maxSteps:=999999) (disch:=first|exact {}|omega|simp) [Lw,Lm,Lt,Lo,Ln,allLen]
 refine CallK.of (c111 p) (by first | exact .inl rfl | exact .inr (by simp)) (by simp) ?_
 simp (maxSteps:=999999) (disch:=first|exact {}|omega|simp) [Lw,Lm,Lt,Lo,Ln,allLen]
theorem c90 (l:List Pt) (h:(l.length:Int) ≤ 1048576):PC E 90 [.i (.sl (encPs l))] [.i (.bool (l.all vP))]:=by
 refine PC_start hE Proofs.Tryz.func90 rfl rfl Proofs.Tryz.ntmps90 (by kernel_rfl) (by kernel_rfl) (by simp) ?_
 simp (maxSteps:=999999) (disch:=first|exact {}|omega|simp) [Lw,Lm,Lt,Lo,Ln,allLen]
 refine CallK.of (c185 l 186 [] (fun p=>!vP p) (fun p _=>c186 p) h) (by first | exact .inl rfl | exact .inr (by simp)) (by simp) ?_
 simp (maxSteps:=999999) (disch:=first|exact {}|omega|simp) [Lw,Lm,Lt,Lo,Ln,allLen,List.not_any_eq_all_not]
theorem c150 (l:List Pt):PC E 150 [.i (.sl (encPs l))] [.i (.int .i64 l.length)]:=by
 refine PC_start hE Proofs.Tryz.func150 rfl rfl Proofs.Tryz.ntmps150 (by kernel_rfl) (by kernel_rfl) (by simp) ?_
 simp (maxSteps:=999999) (disch:=first|exact {}|omega|simp) [Lw,Lm,Lt,Lo,Ln,allLen]
def polI (l:List Pt):Bool:=inB l.length 3 16 && l.all vP && convI l && decide (least l = 0)
theorem allV {l:List Pt} (h:l.all vP = true):∀ p ∈ l,PB 10 134217728 p:=fun p hp=>vP_bound (List.all_eq_true.1 h p hp)
theorem c301 (l:List Pt) (h:(l.length:Int) ≤ 1048576):PC E 301 [.i (.sl (encPs l))] [.i (.bool (polI l))]:=by
 refine PC_start hE Proofs.Tryz.func301 rfl rfl Proofs.Tryz.ntmps301 (by kernel_rfl) (by kernel_rfl) (by simp) ?_
 simp (maxSteps:=999999) (disch:=first|exact {}|omega|simp) [Lw,Lm,Lt,Lo,Ln,allLen]
 refine CallK.of (c150 l) (by first | exact .inl rfl | exact .inr (by simp)) (by simp) ?_
 simp (maxSteps:=999999) (disch:=first|exact {}|omega|simp) [Lw,Lm,Lt,Lo,Ln,allLen]
 refine CallK.of (c149 _ _ _) (by first | exact .inl rfl | exact .inr (by simp)) (by simp) ?_
 simp (maxSteps:=999999) (disch:=first|exact {}|omega|simp) [Lw,Lm,Lt,Lo,Ln,allLen]
 (first | refine Gd.dec (fun h1=>?_) (fun h1=>?_) | refine Gd.intro (fun h1=>?_) (fun h1=>?_)) <;> simp (maxSteps:=999999) (disch:=first|exact {}|omega|simp) [Lw,Lm,Lt,Lo,Ln,allLen,h1]
 rotate_left
 ·simp [polI,h1]
 refine CallK.of (c90 l h) (by first | exact .inl rfl | exact .inr (by simp)) (by simp) ?_
 simp (maxSteps:=999999) (disch:=first|exact {}|omega|simp) [Lw,Lm,Lt,Lo,Ln,allLen]
 (first | refine Gd.dec (fun h2=>?_) (fun h2=>?_) | refine Gd.intro (fun h2=>?_) (fun h2=>?_)) <;> simp (maxSteps:=999999) (disch:=first|exact {}|omega|simp) [Lw,Lm,Lt,Lo,Ln,allLen,h2]
 rotate_left
 ·rw [show polI l = false by unfold polI; rw [h2]; simp]
 refine CallK.of (c139 l (allV h2) (by decide) (by decide) h) (by first | exact .inl rfl | exact .inr (by simp)) (by simp) ?_
 simp (maxSteps:=999999) (disch:=first|exact {}|omega|simp) [Lw,Lm,Lt,Lo,Ln,allLen]
 (first | refine Gd.dec (fun h3=>?_) (fun h3=>?_) | refine Gd.intro (fun h3=>?_) (fun h3=>?_)) <;> simp (maxSteps:=999999) (disch:=first|exact {}|omega|simp) [Lw,Lm,Lt,Lo,Ln,allLen,h3]
 rotate_left
 ·rw [show polI l = false by unfold polI; rw [h3]; simp]
 refine CallK.of (c236 l (allV h2) (by decide) (by decide) (by omega)) (by first | exact .inl rfl | exact .inr (by simp)) (by simp) ?_
 simp (maxSteps:=999999) (disch:=first|exact {}|omega|simp) [Lw,Lm,Lt,Lo,Ln,allLen]
 unfold polI; rw [h1,h2,h3]; simp
end Go.Vai
