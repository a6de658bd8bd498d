/- Texts of this claim: Zw8, Zw10. -/
import Derived.Test.YtmgdmldhgphnmaaGreatDoorUb53
import Derived.Test.YtmgdmldhgphnmaaGreatDoorUb50
import Derived.Test.YtmgdmldhgphnmaaGreatDoorUb38
set_option linter.unusedVariables false
set_option linter.unusedSimpArgs false
set_option maxHeartbeats 8000000
set_option maxRecDepth 20000
namespace Go.Vai
theorem vB_facts {ps:List Pt} {cs:List Cr} (hv:vB ps cs = true):nmsOk ps cs = true ∧ (∀ p ∈ ps,vP p = true) ∧ ps.length ≤ 40 ∧ cs.length ≤ 70:=by
 have hvB:vB ps cs = ((lstB ps cs && dirsOk ps cs) && (planB ps cs && (conB ps.length cs && ((papO ps cs).isSome && insAll ps ((papO ps cs).getD []) cs)))):=by unfold vB; rw [Bool.and_assoc]
 rw [hvB] at hv
 simp only [Bool.and_eq_true] at hv
 have h1:=hv.1.1
 unfold lstB at h1
 simp only [Bool.and_eq_true,decide_eq_true_eq] at h1
 obtain ⟨⟨h40,h70⟩,hpts,hnm⟩:=h1
 exact ⟨hnm,ptsOk_vp hpts,by omega,by omega⟩
end Go.Vai
namespace Go.Vai
def marks (k:Int) (n:Nat):List Int:=(List.range n).map fun i:Nat=>k + (i:Int)
@[simp] theorem marks_len (k:Int) (n:Nat):(marks k n).length = n:=by simp [marks]
theorem marks_set (k:Int) (vs:List Int) (q:Nat) (hq:q < vs.length):((marks k q ++ vs.drop q).map encI).set q [.int .i64 (k + q)] = (marks k (q + 1) ++ vs.drop (q + 1)).map encI:=by
 rw [show ((marks k q ++ vs.drop q).map encI).set q [.int .i64 (k + q)] = ((marks k q ++ vs.drop q).set q (k + q)).map encI by simp [List.map_set,encI]]
 congr 1
 rw [List.set_append_right _ _ (by simp),marks_len,Nat.sub_self,List.drop_eq_getElem_cons hq,List.set_cons_zero]
 simp [marks,List.range_succ]
theorem c22 (vs:List Int) (k:Int) (h0:0 ≤ k) (h1:k + vs.length ≤ 1099511627776):PM E 22 [.sl ⟨1,vs.map encI⟩,.i (.i (.int .i64 k))] [⟨1,(marks k vs.length).map encI⟩] [.i (.int .i64 (k + vs.length))]:=by
 refine PM_start hE Proofs.Tryz.func22 rfl rfl Proofs.Tryz.ntmps22 (by kernel_rfl) (by kernel_rfl) (by simp) (by simp) ?_
 simp (maxSteps:=999999) (disch:=first|exact {}|omega|simp) [Lw,Lm,Lt,Lo,Ln,allLen]
 refine XL.by hE (ι:={ q:Nat // q ≤ vs.length }) (fun q=>⟨[(0,.own 700000 0 vs.length),(1,.i (.int .i64 (k + q.1))),(5,.i (.int .i64 q.1))],[(700000,⟨1,(marks k q.1 ++ vs.drop q.1).map encI⟩)]⟩)
  (fun q=>vs.length - q.1) ⟨0,Nat.zero_le _⟩ ⟨by simp,by simp [marks],by simp⟩ (by kernel_rfl) ?_
 rintro ⟨q,hq⟩
 by_cases hlt:q < vs.length
 ·have hs:=marks_set k vs q hlt
  have hl:(marks k q ++ vs.drop q).length = vs.length:=by simp; omega
  have hg:(marks k q ++ vs.drop q)[q]? = some vs[q]:=by rw [List.getElem?_append_right (by simp)]; simp [hlt]
  have hg2:((marks k q ++ vs.drop q).map encI)[q]? = some [.int .i64 vs[q]]:=by rw [List.getElem?_map,hg]; rfl
  have hAl:((marks k q ++ vs.drop q).map encI).length = vs.length:=by rw [List.length_map]; exact hl
  generalize (marks k q ++ vs.drop q).map encI = A at *
  obtain ⟨hq2,hg4⟩:=List.getElem?_eq_some_iff.1 hg2
  simp (maxSteps:=999999) (disch:=first|exact {}|omega|simp) [Lw,Lm,Lt,Lo,Ln,allLen,hlt,hg4,hAl]
  (refine ⟨⟨q + 1,by omega⟩,by (simp; try omega), ?_⟩; constructor <;> (simp (maxSteps:=999999) (disch:=first|exact {}|omega|simp) [Lw,Lm,Lt,Lo,Ln,allLen,hs,-List.map_append]) <;> (try omega))
  rw [List.map_append,List.map_drop]
 ·obtain rfl:q = vs.length:=by omega
  simp (maxSteps:=999999) (disch:=first|exact {}|omega|simp) [Lw,Lm,Lt,Lo,Ln,allLen,hlt]
theorem c23 (n:Nat) (k:Int) (h0:0 ≤ k) (h1:k + n ≤ 1099511627776):PC E 23 [.i (.sl ((marks k n).map encI)),.i (.int .i64 k)] [.i (.int .i64 (k + n))]:=by
 refine PC_start hE Proofs.Tryz.func23 rfl rfl Proofs.Tryz.ntmps23 (by kernel_rfl) (by kernel_rfl) (by simp) ?_
 simp (maxSteps:=999999) (disch:=first|exact {}|omega|simp) [Lw,Lm,Lt,Lo,Ln,allLen]
 refine XL.by hE (ι:={ q:Nat // q ≤ n }) (fun q=>⟨[(0,.i (.sl ((marks k n).map encI))),(1,.i (.int .i64 (k + q.1))),(5,.i (.int .i64 q.1))],[]⟩)
  (fun q=>n - q.1) ⟨0,Nat.zero_le _⟩ ⟨by simp,by simp,by simp⟩ (by kernel_rfl) ?_
 rintro ⟨q,hq⟩
 by_cases hlt:q < n
 ·have hg:(marks k n)[q]? = some (k + q):=by simp [marks,hlt]
  simp (maxSteps:=999999) (disch:=first|exact {}|omega|simp) [Lw,Lm,Lt,Lo,Ln,allLen,hlt,encI,hg]
  (refine ⟨⟨q + 1,by omega⟩,by (simp; try omega), ?_⟩; constructor <;> (simp (maxSteps:=999999) (disch:=first|exact {}|omega|simp) [Lw,Lm,Lt,Lo,Ln,allLen]) <;> (try omega))
 ·obtain rfl:q = n:=by omega
  simp (maxSteps:=999999) (disch:=first|exact {}|omega|simp) [Lw,Lm,Lt,Lo,Ln,allLen,hlt]
theorem flatInt (l:List Int):∀ el ∈ l.map encI,flatC el:=fun el hel=>by
 obtain ⟨a,-,rfl⟩:=List.mem_map.1 hel
 intro x hx
 simp [encI] at hx
 subst hx; rfl
def kn (l:List Cr) (v:Nat):Nat:=(l.filter fun c=>decide (c.k = (v:Int) + 1)).length
def cntK (cs:List Cr) (k:Nat):List Int:=(List.range 4).map fun v=>(kn (cs.take k) v:Int)
@[simp] theorem cntK_len (cs:List Cr) (k:Nat):(cntK cs k).length = 4:=by simp [cntK]
theorem numB_k {ps:List Pt} {cs:List Cr} (h:nmsOk ps cs = true) {k:Nat} (hk:k < cs.length):1 ≤ (getK cs k).k ∧ (getK cs k).k ≤ 4:=by
 unfold nmsOk at h
 rw [List.all_eq_true] at h
 have:=h k (List.mem_range.2 hk)
 unfold crNum numB at this
 simp only [Bool.and_eq_true] at this
 have h3:=this.1.2.2
 simpa [inB] using h3
end Go.Vai
