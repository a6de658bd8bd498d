/- Texts of this claim: Zw8, Zw10. -/
import Derived.Test.YtcclapmdkobcgaaGreatDoorUb53
import Derived.Test.YtcclapmdkobcgaaGreatDoorUb50
import Derived.Test.YtcclapmdkobcgaaGreatDoorUb38
set_option linter.unusedVariables false
set_option linter.unusedSimpArgs false
set_option maxHeartbeats 8000000
set_option maxRecDepth 20000
namespace Go.Vai
theorem c23 (ps:List Pt) (cs:List Cr) (h:(ps.length:Int) ≤ 1048576) (hc:(cs.length:Int) ≤ 1048576):PC E 23 [.agg (encPa ps cs)] [.own 6 (encPs (papS ps cs))]:=by
 refine PC_start hE Proofs.Tryz.func23 rfl rfl Proofs.Tryz.ntmps23 (by kernel_rfl) (by kernel_rfl) (by simp) ?_
 simp (maxSteps:=999999) (disch:=first|exact {}|omega|simp) [Lw,Lm,Lt,Lo,Ln,allLen,encPa]
 refine CallK.of (c59 ps cs h hc) (by first | exact .inl rfl | exact .inr (by simp)) (by simp) ?_
 simp (maxSteps:=999999) (disch:=first|exact {}|omega|simp) [Lw,Lm,Lt,Lo,Ln,allLen]
 have tP:List.take (papS ps cs).length (encPs (papS ps cs)) = encPs (papS ps cs):=List.take_of_length_le (by simp)
 by_cases hv:vB ps cs = true
 ·simp (maxSteps:=999999) (disch:=first|exact {}|omega|simp) [Lw,Lm,Lt,Lo,Ln,allLen,hv,tP]
 ·have e:vB ps cs = false:=by simpa using hv
  have n1:papS ps cs = []:=by unfold papS; rw [e]; rfl
  simp (maxSteps:=999999) (disch:=first|exact {}|omega|simp) [Lw,Lm,Lt,Lo,Ln,allLen,e,n1,encPs]
theorem vB_facts {ps:List Pt} {cs:List Cr} (hv:vB ps cs = true):nmsOk ps cs = true ∧ (∀ p ∈ ps,vP p = true) ∧ ps.length ≤ 40 ∧ cs.length ≤ 70:=by
 have hvB:vB ps cs = ((lstB ps cs && dirsOk ps cs) && (planB ps cs && (conB ps.length cs && ((papO ps cs).isSome && insAll ps ((papO ps cs).getD []) cs)))):=by unfold vB; rw [Bool.and_assoc]
 rw [hvB] at hv
 simp only [Bool.and_eq_true] at hv
 have h1:=hv.1.1
 unfold lstB at h1
 simp only [Bool.and_eq_true,decide_eq_true_eq] at h1
 obtain ⟨⟨h40,h70⟩,hpts,hnm⟩:=h1
 exact ⟨hnm,ptsOk_vp hpts,by omega,by omega⟩
theorem c24 (ps:List Pt) (cs:List Cr) (h:(ps.length:Int) ≤ 1048576) (hc:(cs.length:Int) ≤ 1048576):PC E 24 [.agg (encPa ps cs)] [.own 6 (encPs (papS ps cs))]:=by
 have hvf:=vB_facts (ps:=ps) (cs:=cs)
 refine PC_start hE Proofs.Tryz.func24 rfl rfl Proofs.Tryz.ntmps24 (by kernel_rfl) (by kernel_rfl) (by simp) ?_
 simp (maxSteps:=999999) (disch:=first|exact {}|omega|simp) [Lw,Lm,Lt,Lo,Ln,allLen,encPa]
 refine CallK.of (c14 ps cs h hc) (by first | exact .inl rfl | exact .inr (by simp)) (by simp) ?_
 simp (maxSteps:=999999) (disch:=first|exact {}|omega|simp) [Lw,Lm,Lt,Lo,Ln,allLen]
 by_cases hv:vB ps cs = true
 ·obtain ⟨hnm,hvp,-,-⟩:=hvf hv
  have e:(papO ps cs).getD [] = papS ps cs:=by unfold papS; rw [if_pos hv]
  have hp:=c47 ps cs hnm hvp h hc
  rw [e] at hp
  have tP:List.take (papS ps cs).length (encPs (papS ps cs)) = encPs (papS ps cs):=List.take_of_length_le (by simp)
  simp (maxSteps:=999999) (disch:=first|exact {}|omega|simp) [Lw,Lm,Lt,Lo,Ln,allLen,hv]
  refine CallK.of (hp) (by first | exact .inl rfl | exact .inr (by simp)) (by simp) ?_
  simp (maxSteps:=999999) (disch:=first|exact {}|omega|simp) [Lw,Lm,Lt,Lo,Ln,allLen,tP]
 ·have e:vB ps cs = false:=by simpa using hv
  have n1:papS ps cs = []:=by unfold papS; rw [e]; rfl
  simp (maxSteps:=999999) (disch:=first|exact {}|omega|simp) [Lw,Lm,Lt,Lo,Ln,allLen,e,n1,encPs]
theorem c28 (n:Nat) (k:Int) (h0:0 ≤ k) (h1:k + 6 * n ≤ 1099511627776):PC E 28 [.i (.sl ((List.range n).map (m6 k))),.i (.int .i64 k)] [.i (.int .i64 (k + 6 * n))]:=by
 refine PC_start hE Proofs.Tryz.func28 rfl rfl Proofs.Tryz.ntmps28 (by kernel_rfl) (by kernel_rfl) (by simp) ?_
 simp (maxSteps:=999999) (disch:=first|exact {}|omega|simp) [Lw,Lm,Lt,Lo,Ln,allLen]
 refine XL.by hE (ι:={ q:Nat // q ≤ n }) (fun q=>⟨[(0,.i (.sl ((List.range n).map (m6 k)))),(1,.i (.int .i64 (k + 6 * (q.1:Int)))),(5,.i (.int .i64 q.1))],[]⟩)
  (fun q=>n - q.1) ⟨0,Nat.zero_le _⟩ ⟨by simp,by simp,by simp⟩ (by kernel_rfl) ?_
 rintro ⟨q,hq⟩
 by_cases hlt:q < n
 ·have hg:((List.range n).map (m6 k))[q]? = some (r6 (k + 6 * q)):=by simp [hlt,m6]
  have hl:((List.range n).map (m6 k)).length = n:=by simp
  unfold r6 at hg
  generalize (List.range n).map (m6 k) = A at *
  obtain ⟨hg1,hg2⟩:=List.getElem?_eq_some_iff.1 hg
  simp (maxSteps:=999999) (disch:=first|exact {}|omega|simp) [Lw,Lm,Lt,Lo,Ln,allLen,hlt,hg2,hl]
  (refine ⟨⟨q + 1,by omega⟩,by (simp; try omega), ?_⟩; constructor <;> (simp (maxSteps:=999999) (disch:=first|exact {}|omega|simp) [Lw,Lm,Lt,Lo,Ln,allLen]) <;> (try omega))
 ·obtain rfl:q = n:=by omega
  simp (maxSteps:=999999) (disch:=first|exact {}|omega|simp) [Lw,Lm,Lt,Lo,Ln,allLen,hlt]
theorem flatPts (l:List Pt):∀ el ∈ encPs l,flatC el:=fun el hel=>by
 obtain ⟨a,-,rfl⟩:=List.mem_map.1 hel
 intro x hx
 simp [encP,encN] at hx
 rcases hx with rfl | rfl | rfl | rfl | rfl | rfl <;> rfl
theorem flat_m6 (k:Int) (n:Nat):∀ a,a < n → flatC (m6 k a):=fun a _ x hx=>by
 simp [m6,r6] at hx
 rcases hx with rfl | rfl | rfl | rfl | rfl | rfl <;> rfl
end Go.Vai
namespace Go.Vai
def marks (k:Int) (n:Nat):List Int:=(List.range n).map fun i:Nat=>k + (i:Int)
@[simp] theorem marks_len (k:Int) (n:Nat):(marks k n).length = n:=by simp [marks]
theorem marks_set (k:Int) (vs:List Int) (q:Nat) (hq:q < vs.length):((marks k q ++ vs.drop q).map encI).set q [.int .i64 (k + q)] = (marks k (q + 1) ++ vs.drop (q + 1)).map encI:=by
 rw [show ((marks k q ++ vs.drop q).map encI).set q [.int .i64 (k + q)] = ((marks k q ++ vs.drop q).set q (k + q)).map encI by simp [List.map_set,encI]]
 congr 1
 rw [List.set_append_right _ _ (by simp),marks_len,Nat.sub_self,List.drop_eq_getElem_cons hq,List.set_cons_zero]
 simp [marks,List.range_succ]
theorem c32 (vs:List Int) (k:Int) (h0:0 ≤ k) (h1:k + vs.length ≤ 1099511627776):PM E 32 [.sl ⟨1,vs.map encI⟩,.i (.i (.int .i64 k))] [⟨1,(marks k vs.length).map encI⟩] [.i (.int .i64 (k + vs.length))]:=by
 refine PM_start hE Proofs.Tryz.func32 rfl rfl Proofs.Tryz.ntmps32 (by kernel_rfl) (by kernel_rfl) (by simp) (by simp) ?_
 simp (maxSteps:=999999) (disch:=first|exact {}|omega|simp) [Lw,Lm,Lt,Lo,Ln,allLen]
 refine XL.by hE (ι:={ q:Nat // q ≤ vs.length }) (fun q=>⟨[(0,.own 700000 0 vs.length),(1,.i (.int .i64 (k + q.1))),(5,.i (.int .i64 q.1))],[(700000,⟨1,(marks k q.1 ++ vs.drop q.1).map encI⟩)]⟩)
  (fun q=>vs.length - q.1) ⟨0,Nat.zero_le _⟩ ⟨by simp,by simp [marks],by simp⟩ (by kernel_rfl) ?_
 rintro ⟨q,hq⟩
 by_cases hlt:q < vs.length
 ·have hs:=marks_set k vs q hlt
  have hl:(marks k q ++ vs.drop q).length = vs.length:=by simp; omega
  have hg:(marks k q ++ vs.drop q)[q]? = some vs[q]:=by rw [List.getElem?_append_right (by simp)]; simp [hlt]
  have hg2:((marks k q ++ vs.drop q).map encI)[q]? = some [.int .i64 vs[q]]:=by rw [List.getElem?_map,hg]; rfl
  have hAl:((marks k q ++ vs.drop q).map encI).length = vs.length:=by rw [List.length_map]; exact hl
  generalize (marks k q ++ vs.drop q).map encI = A at *
  obtain ⟨hq2,hg4⟩:=List.getElem?_eq_some_iff.1 hg2
  simp (maxSteps:=999999) (disch:=first|exact {}|omega|simp) [Lw,Lm,Lt,Lo,Ln,allLen,hlt,hg4,hAl]
  (refine ⟨⟨q + 1,by omega⟩,by (simp; try omega), ?_⟩; constructor <;> (simp (maxSteps:=999999) (disch:=first|exact {}|omega|simp) [Lw,Lm,Lt,Lo,Ln,allLen,hs,-List.map_append]) <;> (try omega))
  rw [List.map_append,List.map_drop]
 ·obtain rfl:q = vs.length:=by omega
  simp (maxSteps:=999999) (disch:=first|exact {}|omega|simp) [Lw,Lm,Lt,Lo,Ln,allLen,hlt]
theorem c33 (n:Nat) (k:Int) (h0:0 ≤ k) (h1:k + n ≤ 1099511627776):PC E 33 [.i (.sl ((marks k n).map encI)),.i (.int .i64 k)] [.i (.int .i64 (k + n))]:=by
 refine PC_start hE Proofs.Tryz.func33 rfl rfl Proofs.Tryz.ntmps33 (by kernel_rfl) (by kernel_rfl) (by simp) ?_
 simp (maxSteps:=999999) (disch:=first|exact {}|omega|simp) [Lw,Lm,Lt,Lo,Ln,allLen]
 refine XL.by hE (ι:={ q:Nat // q ≤ n }) (fun q=>⟨[(0,.i (.sl ((marks k n).map encI))),(1,.i (.int .i64 (k + q.1))),(5,.i (.int .i64 q.1))],[]⟩)
  (fun q=>n - q.1) ⟨0,Nat.zero_le _⟩ ⟨by simp,by simp,by simp⟩ (by kernel_rfl) ?_
 rintro ⟨q,hq⟩
 by_cases hlt:q < n
 ·have hg:(marks k n)[q]? = some (k + q):=by simp [marks,hlt]
  simp (maxSteps:=999999) (disch:=first|exact {}|omega|simp) [Lw,Lm,Lt,Lo,Ln,allLen,hlt,encI,hg]
  (refine ⟨⟨q + 1,by omega⟩,by (simp; try omega), ?_⟩; constructor <;> (simp (maxSteps:=999999) (disch:=first|exact {}|omega|simp) [Lw,Lm,Lt,Lo,Ln,allLen]) <;> (try omega))
 ·obtain rfl:q = n:=by omega
  simp (maxSteps:=999999) (disch:=first|exact {}|omega|simp) [Lw,Lm,Lt,Lo,Ln,allLen,hlt]
theorem flatInt (l:List Int):∀ el ∈ l.map encI,flatC el:=fun el hel=>by
 obtain ⟨a,-,rfl⟩:=List.mem_map.1 hel
 intro x hx
 simp [encI] at hx
 subst hx; rfl
def kn (l:List Cr) (v:Nat):Nat:=(l.filter fun c=>decide (c.k = (v:Int) + 1)).length
theorem kn_snoc (l:List Cr) (c:Cr) (v:Nat):kn (l ++ [c]) v = kn l v + if c.k = (v:Int) + 1 then 1 else 0:=by
 unfold kn
 rw [List.filter_append,List.length_append]
 by_cases h:c.k = (v:Int) + 1 <;> simp [List.filter,h]
theorem kn_le (l:List Cr) (v:Nat):kn l v ≤ l.length:=List.length_filter_le _ _
def cntK (cs:List Cr) (k:Nat):List Int:=(List.range 4).map fun v=>(kn (cs.take k) v:Int)
@[simp] theorem cntK_len (cs:List Cr) (k:Nat):(cntK cs k).length = 4:=by simp [cntK]
theorem cntK_get (cs:List Cr) (k:Nat) {v:Nat} (h:v < 4):(cntK cs k)[v]? = some (kn (cs.take k) v:Int):=by simp [cntK,h]
theorem cntK_zero (cs:List Cr):(cntK cs 0).map encI = [[.int .i64 0],[.int .i64 0],[.int .i64 0],[.int .i64 0]]:=by simp [cntK,kn,encI,List.range_succ]
theorem cntK_step {cs:List Cr} {k:Nat} (h:k < cs.length) (v:Nat) (hk:(getK cs k).k = (v:Int) + 1) (hv:v < 4):cntK cs (k + 1) = (cntK cs k).set v ((kn (cs.take k) v:Int) + 1):=by
 have ht:cs.take (k + 1) = cs.take k ++ [getK cs k]:=by rw [List.take_add_one,List.getElem?_eq_getElem h,(getK_get h).2]; rfl
 refine List.ext_getElem (by simp) fun i h1 h2=>?_
 simp only [cntK,ht,List.getElem_map,List.getElem_range,List.getElem_set,kn_snoc,hk]
 by_cases e:v = i
 ·subst e; simp
 ·rw [if_neg e,if_neg (by omega)]; simp
noncomputable def cntS (ps:List Pt) (cs:List Cr):List Int:=if vB ps cs = true then cntK cs cs.length else []
theorem cntS_len (ps:List Pt) (cs:List Cr):(cntS ps cs).length ≤ 4:=by
 unfold cntS; split <;> simp
theorem numB_k {ps:List Pt} {cs:List Cr} (h:nmsOk ps cs = true) {k:Nat} (hk:k < cs.length):1 ≤ (getK cs k).k ∧ (getK cs k).k ≤ 4:=by
 unfold nmsOk at h
 rw [List.all_eq_true] at h
 have:=h k (List.mem_range.2 hk)
 unfold crNum numB at this
 simp only [Bool.and_eq_true] at this
 have h3:=this.1.2.2
 simpa [inB] using h3
theorem c34 (ps:List Pt) (cs:List Cr) (h:(ps.length:Int) ≤ 1048576) (hc:(cs.length:Int) ≤ 1048576):PC E 34 [.agg (encPa ps cs)] [.own 1 ((cntS ps cs).map encI)]:=by
 have hvf:=vB_facts (ps:=ps) (cs:=cs)
 refine PC_start hE Proofs.Tryz.func34 rfl rfl Proofs.Tryz.ntmps34 (by kernel_rfl) (by kernel_rfl) (by simp) ?_
 simp (maxSteps:=999999) (disch:=first|exact {}|omega|simp) [Lw,Lm,Lt,Lo,Ln,allLen,encPa]
 refine CallK.of (c40 ps cs h hc) (by first | exact .inl rfl | exact .inr (by simp)) (by simp) ?_
 simp (maxSteps:=999999) (disch:=first|exact {}|omega|simp) [Lw,Lm,Lt,Lo,Ln,allLen]
 by_cases hv:vB ps cs = true
 rotate_left
 ·have e:vB ps cs = false:=by simpa using hv
  have n1:cntS ps cs = []:=by unfold cntS; rw [e]; rfl
  simp (maxSteps:=999999) (disch:=first|exact {}|omega|simp) [Lw,Lm,Lt,Lo,Ln,allLen,e,n1]
 obtain ⟨hnm,-,-,-⟩:=hvf hv
 have n1:cntS ps cs = cntK cs cs.length:=by unfold cntS; rw [if_pos hv]
 simp (maxSteps:=999999) (disch:=first|exact {}|omega|simp) [Lw,Lm,Lt,Lo,Ln,allLen,hv]
 refine XL.by hE (ι:={ k:Nat // k ≤ cs.length }) (fun k=>⟨[(1,.ptr 1 0 0),(3,.own 8 0 4),(4,.i (.int .i64 k.1))],[(1,⟨2,[encPa ps cs]⟩),(8,⟨1,(cntK cs k.1).map encI⟩)]⟩)
  (fun k=>cs.length - k.1) ⟨0,Nat.zero_le _⟩ ⟨by simp,by simp [cntK_zero,encPa,encI],by simp⟩ (by kernel_rfl) ?_
 rintro ⟨k,hk⟩
 by_cases hlt:k < cs.length
 ·obtain ⟨hg,he⟩:=getK_get hlt
  obtain ⟨b1,b2⟩:=numB_k hnm hlt
  have hst:=fun v=>cntK_step hlt v
  have hga:=fun (v:Nat) (hv:v < 4)=>cntK_get cs k hv
  have hkl:=fun v=>kn_le (cs.take k) v
  have hlk:(cs.take k).length = k:=by simp; omega
  clear he
  generalize getK cs k = c at *
  obtain ⟨v,hv1⟩:∃ v:Nat,c.k = (v:Int) + 1:=⟨(c.k - 1).toNat,by omega⟩
  have hv4:v < 4:=by omega
  have gA:((cntK cs k).map encI)[v]? = some [.int .i64 (kn (cs.take k) v:Int)]:=by rw [List.getElem?_map,hga v hv4]; rfl
  have hst2:(cntK cs (k + 1)).map encI = ((cntK cs k).map encI).set v [.int .i64 ((kn (cs.take k) v:Int) + 1)]:=by rw [hst v hv1 hv4]; simp [List.map_set,encI]
  have hD:((cntK cs k).map encI).length = 4:=by simp
  have hkv:=hkl v
  obtain ⟨gA1,gA2⟩:=List.getElem?_eq_some_iff.1 gA
  generalize (cntK cs k).map encI = D at *
  generalize kn (cs.take k) v = q at *
  have ev:c.k - 1 = (v:Int):=by omega
  simp (maxSteps:=999999) (disch:=first|exact {}|omega|simp) [Lw,Lm,Lt,Lo,Ln,allLen,hlt,hg,encK,ev,hv1,hv4,hD,gA,gA2,encPa]
  (refine ⟨⟨k + 1,by omega⟩,by (simp; try omega), ?_⟩; constructor <;> (simp (maxSteps:=999999) (disch:=first|exact {}|omega|simp) [Lw,Lm,Lt,Lo,Ln,allLen,encPa,hst2]) <;> (try omega))
 obtain rfl:k = cs.length:=by omega
 have t4:List.take 4 ((cntK cs cs.length).map encI) = (cntK cs cs.length).map encI:=List.take_of_length_le (by simp)
 simp (maxSteps:=999999) (disch:=first|exact {}|omega|simp) [Lw,Lm,Lt,Lo,Ln,allLen,encPa,n1,t4]
theorem c35 (ps:List Pt) (cs:List Cr) (h:(ps.length:Int) ≤ 1048576) (hc:(cs.length:Int) ≤ 1048576):PC E 35 [.agg (encPa ps cs)] [.own 1 ((cntS ps cs).map encI)]:=by
 have hvf:=vB_facts (ps:=ps) (cs:=cs)
 refine PC_start hE Proofs.Tryz.func35 rfl rfl Proofs.Tryz.ntmps35 (by kernel_rfl) (by kernel_rfl) (by simp) ?_
 simp (maxSteps:=999999) (disch:=first|exact {}|omega|simp) [Lw,Lm,Lt,Lo,Ln,allLen,encPa]
 refine CallK.of (c14 ps cs h hc) (by first | exact .inl rfl | exact .inr (by simp)) (by simp) ?_
 simp (maxSteps:=999999) (disch:=first|exact {}|omega|simp) [Lw,Lm,Lt,Lo,Ln,allLen]
 by_cases hv:vB ps cs = true
 rotate_left
 ·have e:vB ps cs = false:=by simpa using hv
  have n1:cntS ps cs = []:=by unfold cntS; rw [e]; rfl
  simp (maxSteps:=999999) (disch:=first|exact {}|omega|simp) [Lw,Lm,Lt,Lo,Ln,allLen,e,n1]
 obtain ⟨hnm,-,-,-⟩:=hvf hv
 have n1:cntS ps cs = cntK cs cs.length:=by unfold cntS; rw [if_pos hv]
 simp (maxSteps:=999999) (disch:=first|exact {}|omega|simp) [Lw,Lm,Lt,Lo,Ln,allLen,hv]
 refine XL.by hE (ι:={ k:Nat // k ≤ cs.length }) (fun k=>⟨[(3,.own 9 0 4),(11,.i (.sl (cs.map encK))),(12,.i (.int .i64 cs.length)),(13,.i (.int .i64 k.1))],[(9,⟨1,(cntK cs k.1).map encI⟩)]⟩)
  (fun k=>cs.length - k.1) ⟨0,Nat.zero_le _⟩ ⟨by simp,by simp [cntK_zero,encPa,encI],by simp⟩ (by kernel_rfl) ?_
 rintro ⟨k,hk⟩
 by_cases hlt:k < cs.length
 ·obtain ⟨hg,he⟩:=getK_get hlt
  obtain ⟨b1,b2⟩:=numB_k hnm hlt
  have hst:=fun v=>cntK_step hlt v
  have hga:=fun (v:Nat) (hv:v < 4)=>cntK_get cs k hv
  have hkl:=fun v=>kn_le (cs.take k) v
  have hlk:(cs.take k).length = k:=by simp; omega
  clear he
  generalize getK cs k = c at *
  obtain ⟨v,hv1⟩:∃ v:Nat,c.k = (v:Int) + 1:=⟨(c.k - 1).toNat,by omega⟩
  have hv4:v < 4:=by omega
  have gA:((cntK cs k).map encI)[v]? = some [.int .i64 (kn (cs.take k) v:Int)]:=by rw [List.getElem?_map,hga v hv4]; rfl
  have hst2:(cntK cs (k + 1)).map encI = ((cntK cs k).map encI).set v [.int .i64 ((kn (cs.take k) v:Int) + 1)]:=by rw [hst v hv1 hv4]; simp [List.map_set,encI]
  have hD:((cntK cs k).map encI).length = 4:=by simp
  have hkv:=hkl v
  obtain ⟨gA1,gA2⟩:=List.getElem?_eq_some_iff.1 gA
  generalize (cntK cs k).map encI = D at *
  generalize kn (cs.take k) v = q at *
  have ev:c.k - 1 = (v:Int):=by omega
  simp (maxSteps:=999999) (disch:=first|exact {}|omega|simp) [Lw,Lm,Lt,Lo,Ln,allLen,hlt,hg,encK,ev,hv1,hv4,hD,gA,gA2,encPa]
  (refine ⟨⟨k + 1,by omega⟩,by (simp; try omega), ?_⟩; constructor <;> (simp (maxSteps:=999999) (disch:=first|exact {}|omega|simp) [Lw,Lm,Lt,Lo,Ln,allLen,encPa,hst2]) <;> (try omega))
 obtain rfl:k = cs.length:=by omega
 have t4:List.take 4 ((cntK cs cs.length).map encI) = (cntK cs cs.length).map encI:=List.take_of_length_le (by simp)
 simp (maxSteps:=999999) (disch:=first|exact {}|omega|simp) [Lw,Lm,Lt,Lo,Ln,allLen,encPa,n1,t4]
end Go.Vai
