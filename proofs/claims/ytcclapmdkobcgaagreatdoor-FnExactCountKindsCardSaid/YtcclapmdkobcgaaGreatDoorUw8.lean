/- Texts of this claim: Zw8. -/
import Derived.Test.YtcclapmdkobcgaaGreatDoorUb53
import Derived.Test.YtcclapmdkobcgaaGreatDoorUb50
set_option linter.unusedVariables false
set_option linter.unusedSimpArgs false
set_option maxHeartbeats 8000000
set_option maxRecDepth 20000
namespace Go.Vai
theorem c23 (ps:List Pt) (cs:List Cr) (h:(ps.length:Int) ≤ 1048576) (hc:(cs.length:Int) ≤ 1048576):PC E 23 [.agg (encPa ps cs)] [.own 6 (encPs (papS ps cs))]:=by
 refine PC_start hE Proofs.Tryz.func23 rfl rfl Proofs.Tryz.ntmps23 (by kernel_rfl) (by kernel_rfl) (by simp) ?_
 simp (maxSteps:=999999) (disch:=first|exact {}|omega|simp) [Lw,Lm,Lt,Lo,Ln,allLen,encPa]
 refine CallK.of (c59 ps cs h hc) (by first | exact .inl rfl | exact .inr (by simp)) (by simp) ?_
 simp (maxSteps:=999999) (disch:=first|exact {}|omega|simp) [Lw,Lm,Lt,Lo,Ln,allLen]
 have tP:List.take (papS ps cs).length (encPs (papS ps cs)) = encPs (papS ps cs):=List.take_of_length_le (by simp)
 by_cases hv:vB ps cs = true
 ·simp (maxSteps:=999999) (disch:=first|exact {}|omega|simp) [Lw,Lm,Lt,Lo,Ln,allLen,hv,tP]
 ·have e:vB ps cs = false:=by simpa using hv
  have n1:papS ps cs = []:=by unfold papS; rw [e]; rfl
  simp (maxSteps:=999999) (disch:=first|exact {}|omega|simp) [Lw,Lm,Lt,Lo,Ln,allLen,e,n1,encPs]
theorem vB_facts {ps:List Pt} {cs:List Cr} (hv:vB ps cs = true):nmsOk ps cs = true ∧ (∀ p ∈ ps,vP p = true) ∧ ps.length ≤ 40 ∧ cs.length ≤ 70:=by
 have hvB:vB ps cs = ((lstB ps cs && dirsOk ps cs) && (planB ps cs && (conB ps.length cs && ((papO ps cs).isSome && insAll ps ((papO ps cs).getD []) cs)))):=by unfold vB; rw [Bool.and_assoc]
 rw [hvB] at hv
 simp only [Bool.and_eq_true] at hv
 have h1:=hv.1.1
 unfold lstB at h1
 simp only [Bool.and_eq_true,decide_eq_true_eq] at h1
 obtain ⟨⟨h40,h70⟩,hpts,hnm⟩:=h1
 exact ⟨hnm,ptsOk_vp hpts,by omega,by omega⟩
theorem c24 (ps:List Pt) (cs:List Cr) (h:(ps.length:Int) ≤ 1048576) (hc:(cs.length:Int) ≤ 1048576):PC E 24 [.agg (encPa ps cs)] [.own 6 (encPs (papS ps cs))]:=by
 have hvf:=vB_facts (ps:=ps) (cs:=cs)
 refine PC_start hE Proofs.Tryz.func24 rfl rfl Proofs.Tryz.ntmps24 (by kernel_rfl) (by kernel_rfl) (by simp) ?_
 simp (maxSteps:=999999) (disch:=first|exact {}|omega|simp) [Lw,Lm,Lt,Lo,Ln,allLen,encPa]
 refine CallK.of (c14 ps cs h hc) (by first | exact .inl rfl | exact .inr (by simp)) (by simp) ?_
 simp (maxSteps:=999999) (disch:=first|exact {}|omega|simp) [Lw,Lm,Lt,Lo,Ln,allLen]
 by_cases hv:vB ps cs = true
 ·obtain ⟨hnm,hvp,-,-⟩:=hvf hv
  have e:(papO ps cs).getD [] = papS ps cs:=by unfold papS; rw [if_pos hv]
  have hp:=c47 ps cs hnm hvp h hc
  rw [e] at hp
  have tP:List.take (papS ps cs).length (encPs (papS ps cs)) = encPs (papS ps cs):=List.take_of_length_le (by simp)
  simp (maxSteps:=999999) (disch:=first|exact {}|omega|simp) [Lw,Lm,Lt,Lo,Ln,allLen,hv]
  refine CallK.of (hp) (by first | exact .inl rfl | exact .inr (by simp)) (by simp) ?_
  simp (maxSteps:=999999) (disch:=first|exact {}|omega|simp) [Lw,Lm,Lt,Lo,Ln,allLen,tP]
 ·have e:vB ps cs = false:=by simpa using hv
  have n1:papS ps cs = []:=by unfold papS; rw [e]; rfl
  simp (maxSteps:=999999) (disch:=first|exact {}|omega|simp) [Lw,Lm,Lt,Lo,Ln,allLen,e,n1,encPs]
theorem c28 (n:Nat) (k:Int) (h0:0 ≤ k) (h1:k + 6 * n ≤ 1099511627776):PC E 28 [.i (.sl ((List.range n).map (m6 k))),.i (.int .i64 k)] [.i (.int .i64 (k + 6 * n))]:=by
 refine PC_start hE Proofs.Tryz.func28 rfl rfl Proofs.Tryz.ntmps28 (by kernel_rfl) (by kernel_rfl) (by simp) ?_
 simp (maxSteps:=999999) (disch:=first|exact {}|omega|simp) [Lw,Lm,Lt,Lo,Ln,allLen]
 refine XL.by hE (ι:={ q:Nat // q ≤ n }) (fun q=>⟨[(0,.i (.sl ((List.range n).map (m6 k)))),(1,.i (.int .i64 (k + 6 * (q.1:Int)))),(5,.i (.int .i64 q.1))],[]⟩)
  (fun q=>n - q.1) ⟨0,Nat.zero_le _⟩ ⟨by simp,by simp,by simp⟩ (by kernel_rfl) ?_
 rintro ⟨q,hq⟩
 by_cases hlt:q < n
 ·have hg:((List.range n).map (m6 k))[q]? = some (r6 (k + 6 * q)):=by simp [hlt,m6]
  have hl:((List.range n).map (m6 k)).length = n:=by simp
  unfold r6 at hg
  generalize (List.range n).map (m6 k) = A at *
  obtain ⟨hg1,hg2⟩:=List.getElem?_eq_some_iff.1 hg
  simp (maxSteps:=999999) (disch:=first|exact {}|omega|simp) [Lw,Lm,Lt,Lo,Ln,allLen,hlt,hg2,hl]
  (refine ⟨⟨q + 1,by omega⟩,by (simp; try omega), ?_⟩; constructor <;> (simp (maxSteps:=999999) (disch:=first|exact {}|omega|simp) [Lw,Lm,Lt,Lo,Ln,allLen]) <;> (try omega))
 ·obtain rfl:q = n:=by omega
  simp (maxSteps:=999999) (disch:=first|exact {}|omega|simp) [Lw,Lm,Lt,Lo,Ln,allLen,hlt]
theorem flatPts (l:List Pt):∀ el ∈ encPs l,flatC el:=fun el hel=>by
 obtain ⟨a,-,rfl⟩:=List.mem_map.1 hel
 intro x hx
 simp [encP,encN] at hx
 rcases hx with rfl | rfl | rfl | rfl | rfl | rfl <;> rfl
theorem flat_m6 (k:Int) (n:Nat):∀ a,a < n → flatC (m6 k a):=fun a _ x hx=>by
 simp [m6,r6] at hx
 rcases hx with rfl | rfl | rfl | rfl | rfl | rfl <;> rfl
end Go.Vai
