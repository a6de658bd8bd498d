/- Texts of this claim: Zw14, Zq27, Zq28, Zw8, Zq29. -/
import Derived.Test.YtiipeibaiphmpaaGreatDoorTb73
import Derived.Test.YtiipeibaiphmpaaGreatDoorTb16
import Derived.Test.YtiipeibaiphmpaaGreatDoorTb53
set_option linter.unusedVariables false
set_option linter.unusedSimpArgs false
set_option maxHeartbeats 4000000
namespace Go.Vai
theorem ncmp_range (x y:Nu):ncmp x y = -1 ∨ ncmp x y = 0 ∨ ncmp x y = 1:=nsign_range (nsub x y)
theorem ncmp_lt_trans {x y z:Nu} (hx:0 ≤ x.k) (hy:0 ≤ y.k) (hz:0 ≤ z.k) (h1:ncmp x y < 0) (h2:ncmp y z < 0):ncmp x z < 0:=by
 have e1:ncmp x y = -1:=by rcases ncmp_range x y with h | h | h <;> omega
 have e2:ncmp y z = -1:=by rcases ncmp_range y z with h | h | h <;> omega
 have p:=ncmp_neg hx hy e1
 have q:=ncmp_neg hy hz e2
 have s:Pos (val z - val x):=by rw [show val z - val x = (val y - val x) + (val z - val y) by grind]; exact p.add q
 rcases ncmp_range x z with h | h | h
 ·omega
 ·exact absurd ((ncmp_zero hx hz).1 h) (fun e=>s.ne (by rw [e]; grind))
 ·have t:=ncmp_pos hx hz h
  exact (s.anti (by rwa [show -(val z - val x) = val x - val z by grind])).elim
theorem ncmp_eq_l {x x' y:Nu} (hx:0 ≤ x.k) (hx':0 ≤ x'.k) (hy:0 ≤ y.k) (h:ncmp x x' = 0):ncmp x y = ncmp x' y:=nsub_val hx hy hx' hy ((ncmp_zero hx hx').1 h) rfl
theorem ncmp_eq_r {x y y':Nu} (hx:0 ≤ x.k) (hy:0 ≤ y.k) (hy':0 ≤ y'.k) (h:ncmp y y' = 0):ncmp x y = ncmp x y':=nsub_val hx hy hx hy' rfl ((ncmp_zero hy hy').1 h)
theorem pcmp_trans {p q r:Pt} (hp:PK p) (hq:PK q) (hr:PK r) (h1:pcmp p q < 0) (h2:pcmp q r < 0):pcmp p r < 0:=by
 unfold pcmp at *
 by_cases a:ncmp p.x q.x = 0
 ·have e:=ncmp_eq_l hp.1 hq.1 hr.1 a
  rw [if_pos a] at h1
  by_cases b:ncmp q.x r.x = 0
  ·rw [if_pos b] at h2
   rw [e,if_pos b]; exact ncmp_lt_trans hp.2 hq.2 hr.2 h1 h2
  ·rw [if_neg b] at h2
   rw [e,if_neg b]; exact h2
 ·rw [if_neg a] at h1
  by_cases b:ncmp q.x r.x = 0
  ·have e:=ncmp_eq_r hp.1 hq.1 hr.1 b
   rw [← e,if_neg a]; exact h1
  ·rw [if_neg b] at h2
   have t:=ncmp_lt_trans hp.1 hq.1 hr.1 h1 h2
   rw [if_neg (by omega)]; exact t
end Go.Vai
namespace Go.Vai
end Go.Vai
namespace Go.Vai
end Go.Vai
set_option maxHeartbeats 8000000
set_option maxRecDepth 20000
namespace Go.Vai
theorem vB_facts {ps:List Pt} {cs:List Cr} (hv:vB ps cs = true):nmsOk ps cs = true ∧ (∀ p ∈ ps,vP p = true) ∧ ps.length ≤ 40 ∧ cs.length ≤ 70:=by
 have hvB:vB ps cs = ((lstB ps cs && dirsOk ps cs) && (planB ps cs && (conB ps.length cs && ((papO ps cs).isSome && insAll ps ((papO ps cs).getD []) cs)))):=by unfold vB; rw [Bool.and_assoc]
 rw [hvB] at hv
 simp only [Bool.and_eq_true] at hv
 have h1:=hv.1.1
 unfold lstB at h1
 simp only [Bool.and_eq_true,decide_eq_true_eq] at h1
 obtain ⟨⟨h40,h70⟩,hpts,hnm⟩:=h1
 exact ⟨hnm,ptsOk_vp hpts,by omega,by omega⟩
theorem c32 (n:Nat) (k:Int) (h0:0 ≤ k) (h1:k + 6 * n ≤ 1099511627776):PC E 32 [.i (.sl ((List.range n).map (m6 k))),.i (.int .i64 k)] [.i (.int .i64 (k + 6 * n))]:=by
 refine zP hE Proofs.Tryz.func32 Proofs.Tryz.ntmps32 rfl rfl ?_
 simp (maxSteps:=999999) (disch:=first|exact {}|omega|simp) [zS]
 refine XL.by hE (ι:={ q:Nat // q ≤ n }) (fun q=>⟨[(0,.i (.sl ((List.range n).map (m6 k)))),(1,.i (.int .i64 (k + 6 * (q.1:Int)))),(5,.i (.int .i64 q.1))],[]⟩)
  (fun q=>n - q.1) ⟨0,Nat.zero_le _⟩ ⟨by simp,by simp,by simp⟩ (by kernel_rfl) ?_
 rintro ⟨q,hq⟩
 by_cases hlt:q < n
 ·have hg:((List.range n).map (m6 k))[q]? = some (r6 (k + 6 * q)):=by simp [hlt,m6]
  have hl:((List.range n).map (m6 k)).length = n:=by simp
  unfold r6 at hg
  generalize (List.range n).map (m6 k) = A at *
  obtain ⟨hg1,hg2⟩:=List.getElem?_eq_some_iff.1 hg
  simp (maxSteps:=999999) (disch:=first|exact {}|omega|simp) [zS,hlt,hg2,hl]
  (refine ⟨⟨q + 1,by omega⟩,by (simp; try omega), ?_⟩; constructor <;> (simp (maxSteps:=999999) (disch:=first|exact {}|omega|simp) [zS]) <;> (try omega))
 ·obtain rfl:q = n:=by omega
  simp (maxSteps:=999999) (disch:=first|exact {}|omega|simp) [zS,hlt]
theorem flatPts (l:List Pt):∀ el ∈ encPs l,flatC el:=fun el hel=>by
 obtain ⟨a,-,rfl⟩:=List.mem_map.1 hel
 intro x hx
 simp [encP,encN] at hx
 rcases hx with rfl | rfl | rfl | rfl | rfl | rfl <;> rfl
theorem flat_m6 (k:Int) (n:Nat):∀ a,a < n → flatC (m6 k a):=fun a _ x hx=>by
 simp [m6,r6] at hx
 rcases hx with rfl | rfl | rfl | rfl | rfl | rfl <;> rfl
end Go.Vai
set_option maxHeartbeats 4000000
namespace Go.Vai
theorem vB_more {ps:List Pt} {cs:List Cr} (hv:vB ps cs = true):dirsOk ps cs = true ∧ planB ps cs = true:=by
 have hvB:vB ps cs = ((lstB ps cs && dirsOk ps cs) && (planB ps cs && (conB ps.length cs && ((papO ps cs).isSome && insAll ps ((papO ps cs).getD []) cs)))):=by unfold vB; rw [Bool.and_assoc]
 rw [hvB] at hv
 simp only [Bool.and_eq_true] at hv
 exact ⟨hv.1.2,hv.2.1⟩
end Go.Vai
