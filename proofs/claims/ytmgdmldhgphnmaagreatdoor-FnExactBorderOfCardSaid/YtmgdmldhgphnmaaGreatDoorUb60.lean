/- Texts of this claim: Zw14, Zw15, Zw16. -/
import Derived.Test.YtmgdmldhgphnmaaGreatDoorUb50
import Derived.Test.YtmgdmldhgphnmaaGreatDoorUb16
import Derived.Test.YtmgdmldhgphnmaaGreatDoorUb58
set_option linter.unusedVariables false
set_option linter.unusedSimpArgs false
set_option maxHeartbeats 4000000
namespace Go.Vai
theorem ncmp_range (x y:Nu):ncmp x y = -1 ∨ ncmp x y = 0 ∨ ncmp x y = 1:=nsign_range (nsub x y)
theorem ncmp_lt_trans {x y z:Nu} (hx:0 ≤ x.k) (hy:0 ≤ y.k) (hz:0 ≤ z.k) (h1:ncmp x y < 0) (h2:ncmp y z < 0):ncmp x z < 0:=by
 have e1:ncmp x y = -1:=by rcases ncmp_range x y with h | h | h <;> omega
 have e2:ncmp y z = -1:=by rcases ncmp_range y z with h | h | h <;> omega
 have p:=ncmp_neg hx hy e1
 have q:=ncmp_neg hy hz e2
 have s:Pos (val z - val x):=by rw [show val z - val x = (val y - val x) + (val z - val y) by grind]; exact p.add q
 rcases ncmp_range x z with h | h | h
 ·omega
 ·exact absurd ((ncmp_zero hx hz).1 h) (fun e=>s.ne (by rw [e]; grind))
 ·have t:=ncmp_pos hx hz h
  exact (s.anti (by rwa [show -(val z - val x) = val x - val z by grind])).elim
theorem ncmp_eq_l {x x' y:Nu} (hx:0 ≤ x.k) (hx':0 ≤ x'.k) (hy:0 ≤ y.k) (h:ncmp x x' = 0):ncmp x y = ncmp x' y:=nsub_val hx hy hx' hy ((ncmp_zero hx hx').1 h) rfl
theorem ncmp_eq_r {x y y':Nu} (hx:0 ≤ x.k) (hy:0 ≤ y.k) (hy':0 ≤ y'.k) (h:ncmp y y' = 0):ncmp x y = ncmp x y':=nsub_val hx hy hx hy' rfl ((ncmp_zero hy hy').1 h)
theorem pcmp_trans {p q r:Pt} (hp:PK p) (hq:PK q) (hr:PK r) (h1:pcmp p q < 0) (h2:pcmp q r < 0):pcmp p r < 0:=by
 unfold pcmp at *
 by_cases a:ncmp p.x q.x = 0
 ·have e:=ncmp_eq_l hp.1 hq.1 hr.1 a
  rw [if_pos a] at h1
  by_cases b:ncmp q.x r.x = 0
  ·rw [if_pos b] at h2
   rw [e,if_pos b]; exact ncmp_lt_trans hp.2 hq.2 hr.2 h1 h2
  ·rw [if_neg b] at h2
   rw [e,if_neg b]; exact h2
 ·rw [if_neg a] at h1
  by_cases b:ncmp q.x r.x = 0
  ·have e:=ncmp_eq_r hp.1 hq.1 hr.1 b
   rw [← e,if_neg a]; exact h1
  ·rw [if_neg b] at h2
   have t:=ncmp_lt_trans hp.1 hq.1 hr.1 h1 h2
   rw [if_neg (by omega)]; exact t
theorem leastF_min {l:List Pt} (hp:∀ p ∈ l,PK p):∀ {k:Nat},k ≤ l.length → ∀ j,j < k → ¬ pcmp (nth l j) (nth l (leastF l k)) < 0
 | 0,_=>fun j hj=>by omega
 | k + 1,hk=>fun j hj=>by
  have ih:=leastF_min hp (k:=k) (by omega)
  have hl:=leastF_lt (l:=l) (k:=k) (by omega) (by omega)
  unfold leastF
  split
  ·rename_i hc
   rcases Nat.lt_succ_iff_lt_or_eq.1 hj with hj' | rfl
   ·intro h; exact ih j hj' (pcmp_trans (hp _ (nth_mem (by omega))) (hp _ (nth_mem (by omega))) (hp _ (nth_mem hl)) h hc)
   ·rw [pcmp_self _ (hp _ (nth_mem (by omega)))]; omega
  ·rename_i hc
   rcases Nat.lt_succ_iff_lt_or_eq.1 hj with hj' | rfl
   ·exact ih j hj'
   ·exact hc
theorem rot0_least {l:List Pt} (hp:∀ p ∈ l,PK p):least (rot0 l) = 0:=by
 by_cases h:l = []
 ·subst h; rfl
 have hlt:least l < l.length:=leastF_lt (Nat.le_refl _) (List.length_pos_iff.2 h)
 have h0:nth (rot0 l) 0 = nth l (least l):=by
  unfold rot0
  rw [List.drop_eq_getElem_cons hlt,nth_eq hlt]
  rfl
 refine leastF_zero fun j hj=>?_
 obtain ⟨i,hi,e⟩:=List.getElem_of_mem (rot0_mem (nth_mem hj))
 rw [h0,← e,← nth_eq hi]
 exact leastF_min hp (Nat.le_refl _) i hi
theorem vB_okR {ps:List Pt} {cs:List Cr} (hv:vB ps cs = true):okR cs = true ∧ nmsOk ps cs = true ∧ (∀ p ∈ ps,vP p = true) ∧ ∃ m,nrmO (corC ps cs) = some m:=by
 have hvB:vB ps cs = ((lstB ps cs && dirsOk ps cs) && (planB ps cs && (conB ps.length cs && ((papO ps cs).isSome && insAll ps ((papO ps cs).getD []) cs)))):=by unfold vB; rw [Bool.and_assoc]
 rw [hvB] at hv
 simp only [Bool.and_eq_true] at hv
 have h1:=hv.1.1
 have h2:=hv.2.2.2.1
 unfold lstB at h1
 simp only [Bool.and_eq_true,decide_eq_true_eq] at h1
 obtain ⟨-,hpts,hnm⟩:=h1
 by_cases ho:okR cs = true
 ·refine ⟨ho,hnm,ptsOk_vp hpts, ?_⟩
  unfold papO at h2
  rw [if_pos ho] at h2
  exact Option.isSome_iff_exists.1 h2
 ·have e:papO ps cs = none:=by unfold papO; rw [if_neg ho]
  rw [e] at h2
  simp at h2
theorem conv_pol {ps:List Pt} {cs:List Cr} (hv:vB ps cs = true):convI (rot0 (corC ps cs)) = polI (rot0 (corC ps cs)):=by
 obtain ⟨ho,hnm,hvp,m,hm⟩:=vB_okR hv
 have hcv:∀ p ∈ corC ps cs,vP p = true:=fun p hp=>hvp p (cor_mem hnm ho p hp)
 have hk:∀ p ∈ corC ps cs,PK p:=fun p hp=>(vP_bound (hcv p hp)).pk
 rw [nrm_eq hcv] at hm
 generalize corC ps cs = C at *
 have hlen:3 ≤ (rot0 C).length ∧ (rot0 C).length ≤ 16:=by
  split at hm
  ·rename_i h; exact polI_len h
  ·split at hm
   ·rename_i h
    have:=polI_len h
    rw [rot0_len,List.length_reverse] at this
    rw [rot0_len]; exact this
   ·simp at hm
 have hall:(rot0 C).all vP = true:=List.all_eq_true.2 fun p hp=>hcv p (rot0_mem hp)
 have hin:inB (rot0 C).length 3 16 = true:=by rw [inB_iff]; omega
 unfold polI
 rw [hall,hin,rot0_least hk]
 simp
end Go.Vai
set_option maxHeartbeats 8000000
set_option maxRecDepth 20000
namespace Go.Vai
def nthI (l:List Int) (k:Nat):Int:=l.getD k 0
theorem nthI_eq {l:List Int} {k:Nat} (h:k < l.length):nthI l k = l[k]:=by simp [nthI,h]
theorem nthI_set {l:List Int} {a t:Nat} {x:Int} (h:a < l.length):nthI (l.set a x) t = if t = a then x else nthI l t:=by
 unfold nthI
 by_cases e:t = a
 ·subst e; simp [h]
 ·rw [List.getD_eq_getElem?_getD,List.getElem?_set_ne (fun e'=>e e'.symm),if_neg e,List.getD_eq_getElem?_getD]
theorem nthI_rev {l:List Int} {t:Nat} (h:t < l.length):nthI l.reverse t = nthI l (l.length - 1 - t):=by
 unfold nthI
 rw [List.getD_eq_getElem?_getD,List.getElem?_reverse h,List.getD_eq_getElem?_getD]
theorem ext_nthI {l m:List Int} (hl:l.length = m.length) (h:∀ t,t < l.length → nthI l t = nthI m t):l = m:=by
 refine List.ext_getElem hl fun t h1 h2=>?_
 have:=h t h1
 rwa [nthI_eq h1,nthI_eq h2] at this
def RvI (l M:List Int) (i:Nat):Prop:=∀ t,t < l.length → nthI M t = if t < i ∨ l.length - i ≤ t then nthI l (l.length - 1 - t) else nthI l t
theorem RvI.start (l:List Int):RvI l l 0:=fun t ht=>by rw [if_neg (by omega)]
theorem RvI.step {l M:List Int} {i:Nat} (hM:M.length = l.length) (h:RvI l M i) (hi:i < l.length - 1 - i):RvI l ((M.set i (nthI M (l.length - 1 - i))).set (l.length - 1 - i) (nthI M i)) (i + 1):=fun t ht=>by
 have h1:=h i (by omega)
 have h2:=h (l.length - 1 - i) (by omega)
 rw [if_neg (by omega)] at h1 h2
 rw [nthI_set (by simp; omega),nthI_set (by omega)]
 by_cases e1:t = l.length - 1 - i
 ·rw [if_pos e1,if_pos (by omega),h1,e1]; congr 1; omega
 ·rw [if_neg e1]
  by_cases e2:t = i
  ·rw [if_pos e2,if_pos (by omega),h2,e2]
  ·rw [if_neg e2,h t ht]
   by_cases e3:t < i ∨ l.length - i ≤ t
   ·rw [if_pos e3,if_pos (by omega)]
   ·rw [if_neg e3,if_neg (by omega)]
theorem RvI.done {l M:List Int} {i:Nat} (hM:M.length = l.length) (h:RvI l M i) (hi:¬ (i:Int) < (l.length:Int) - 1 - i):M = l.reverse:=by
 refine ext_nthI (by simp [hM]) fun t ht=>?_
 rw [hM] at ht
 rw [h t ht,nthI_rev ht]
 by_cases e:t < i ∨ l.length - i ≤ t
 ·rw [if_pos e]
 ·rw [if_neg e]; congr 1; omega
theorem c140 (x:Int) (l:List Int) (h:(l.length:Int) ≤ 1048575):PM E 140 [.so ⟨1,(x :: l).map encI⟩ 1] [⟨1,(x :: l.reverse).map encI⟩] []:=by
 have hel:((x :: l).map encI).length = l.length + 1:=by simp
 have her:((x :: l.reverse).map encI).length = l.length + 1:=by simp
 refine PM_start hE Proofs.Tryz.func140 rfl rfl Proofs.Tryz.ntmps140 (by kernel_rfl) (by kernel_rfl) (by simp) (by simp [hel,her]) ?_
 simp (maxSteps:=999999) (disch:=first|exact {}|omega|simp) [Lw,Lm,Lt,Lo,Ln,allLen,hel]
 refine XL.by hE (ι:={ p:Nat × List Int // p.2.length = l.length ∧ p.1 ≤ l.length ∧ RvI l p.2 p.1 }) (fun p=>⟨[(0,.own 700000 1 l.length),(2,.i (.int .i64 p.1.1)),(3,.i (.int .i64 ((l.length:Int) - 1 - p.1.1)))],[(700000,⟨1,(x :: p.1.2).map encI⟩)]⟩)
  (fun p=>l.length - p.1.1) ⟨(0,l),rfl,Nat.zero_le _,RvI.start l⟩ ⟨by simp,by simp,by simp⟩ (by kernel_rfl) ?_
 rintro ⟨⟨i,M⟩,hM,hi,hR⟩
 simp only at hM hi hR
 have hML:((x :: M).map encI).length = l.length + 1:=by simp [hM]
 by_cases hlt:(i:Int) < (l.length:Int) - 1 - i
 ·have hj:l.length - 1 - i < l.length:=by omega
  have hil:i < l.length:=by omega
  have ej:((l.length:Int) - 1 - i).toNat = l.length - 1 - i:=by omega
  have ej0:¬ ((l.length:Int) - 1 - i < 0):=by omega
  have gi:((x :: M).map encI)[1 + i]? = some [.int .i64 (nthI M i)]:=by rw [Nat.add_comm,List.map_cons,List.getElem?_cons_succ,List.getElem?_map,List.getElem?_eq_getElem (by omega),nthI_eq (by omega)]; rfl
  have gj:((x :: M).map encI)[1 + (l.length - 1 - i)]? = some [.int .i64 (nthI M (l.length - 1 - i))]:=by rw [Nat.add_comm,List.map_cons,List.getElem?_cons_succ,List.getElem?_map,List.getElem?_eq_getElem (by omega),nthI_eq (by omega)]; rfl
  have hS:=hR.step hM (by omega)
  have hset:(((x :: M).map encI).set (1 + i) [.int .i64 (nthI M (l.length - 1 - i))]).set (1 + (l.length - 1 - i)) [.int .i64 (nthI M i)] = (x :: (M.set i (nthI M (l.length - 1 - i))).set (l.length - 1 - i) (nthI M i)).map encI:=by
   rw [Nat.add_comm 1 i,Nat.add_comm 1 (l.length - 1 - i)]
   simp [List.map_set,encI]
  have gi2:=(List.getElem?_eq_some_iff.1 gi).2
  have gj2:=(List.getElem?_eq_some_iff.1 gj).2
  have hne:1 + i ≠ 1 + (l.length - 1 - i):=by omega
  have hSl:((M.set i (nthI M (l.length - 1 - i))).set (l.length - 1 - i) (nthI M i)).length = l.length:=by simp [hM]
  generalize (M.set i (nthI M (l.length - 1 - i))).set (l.length - 1 - i) (nthI M i) = M2 at *
  generalize (x :: M).map encI = A at *
  generalize nthI M i = q1 at *
  generalize hjd:l.length - 1 - i = j at *
  generalize nthI M j = q2 at *
  have b1:1 + i < l.length + 1:=by omega
  have b2:1 + j < l.length + 1:=by omega
  have c1:i + 1 < l.length + 1:=by omega
  have c2:j + 1 < l.length + 1:=by omega
  simp (maxSteps:=999999) (disch:=first|exact {}|omega|simp) [Lw,Lm,Lt,Lo,Ln,allLen,hlt,ej,ej0,hj,hil,gi,gj,gi2,gj2,hML,hne,b1,b2]
  (refine ⟨⟨(i + 1,M2),hSl,by simp; omega,hS⟩,by (simp; try omega), ?_⟩; constructor <;> (simp (maxSteps:=999999) (disch:=first|exact {}|omega|simp) [Lw,Lm,Lt,Lo,Ln,allLen,ej,ej0,hj,hil,gi,gj,gi2,gj2,hML,hset]) <;> (try omega))
 ·have hD:=hR.done hM hlt
  subst hD
  simp (maxSteps:=999999) (disch:=first|exact {}|omega|simp) [Lw,Lm,Lt,Lo,Ln,allLen,hlt]
theorem backL_len (l:List Int):(backL l).length = l.length:=by unfold backL; simp; omega
theorem arrS_le {ps:List Pt} {cs:List Cr} (hc:(cs.length:Int) ≤ 1048576):((arrS ps cs).length:Int) ≤ 1048576:=by
 unfold arrS
 split
 ·rename_i hv
  obtain ⟨ho,hnm,-,-⟩:=vB_okR hv
  have:=(rnd_in hnm ho).2.1
  have hb:=backL_len (rndI cs)
  unfold arrI
  split <;> omega
 ·simp
theorem c58 (ps:List Pt) (cs:List Cr) (hv:vB ps cs = true) (h:(ps.length:Int) ≤ 1048576) (hc:(cs.length:Int) ≤ 1048576):PC E 58 [.agg (encPa ps cs)] [.own 1 ((arrI ps cs).map encI)]:=by
 obtain ⟨ho,hnm,hvp,-⟩:=vB_okR hv
 have hcp:=conv_pol hv
 obtain ⟨-,-,h40,h70⟩:=vB_facts hv
 obtain ⟨r1,r2,r3⟩:=rnd_in hnm ho
 have hpo:=c138 ps cs (rndI cs) r1 (by omega)
 have hl1:(rptC ps cs).length = (rndI cs).length:=by simp [rptC]
 have hbl:=bendN_len (rptC ps cs) (rptC ps cs).length
 have hcl:(corC ps cs).length ≤ (rptC ps cs).length:=hbl
 have hst:=c137 (rptC ps cs) (fun p hp=>vP_bound (hvp p (rpt_mem hnm ho p hp))) (by omega)
 have hcv:∀ p ∈ corC ps cs,PV p:=fun p hp=>vP_bound (hvp p (cor_mem hnm ho p hp))
 have hro:=c136 (corC ps cs) hcv (by decide) (by decide) (by omega)
 have hrl:=rot0_len (corC ps cs)
 have hcx:=c139 (rot0 (corC ps cs)) (fun p hp=>hcv p (rot0_mem hp)) (by decide) (by decide) (by omega)
 rw [hcp] at hcx
 have tX:List.take (rndI cs).length ((rndI cs).map encI) = (rndI cs).map encI:=List.take_of_length_le (by simp)
 have tY:List.take (rptC ps cs).length (encPs (rptC ps cs)) = encPs (rptC ps cs):=List.take_of_length_le (by simp)
 have tY':List.take (rndI cs).length (encPs (rptC ps cs)) = encPs (rptC ps cs):=List.take_of_length_le (by simp [hl1])
 have tZ:List.take (corC ps cs).length (encPs (corC ps cs)) = encPs (corC ps cs):=List.take_of_length_le (by simp)
 have tR:List.take (rot0 (corC ps cs)).length (encPs (rot0 (corC ps cs))) = encPs (rot0 (corC ps cs)):=List.take_of_length_le (by simp)
 have hb:=c135 ps cs hnm (by omega) (by omega)
 unfold encPa at hb hpo
 refine PC_start hE Proofs.Tryz.func58 rfl rfl Proofs.Tryz.ntmps58 (by kernel_rfl) (by kernel_rfl) (by simp) ?_
 simp (maxSteps:=999999) (disch:=first|exact {}|omega|simp) [Lw,Lm,Lt,Lo,Ln,allLen,encPa]
 refine CallK.of (hb) (by first | exact .inl rfl | exact .inr (by simp)) (by simp) ?_
 simp (maxSteps:=999999) (disch:=first|exact {}|omega|simp) [Lw,Lm,Lt,Lo,Ln,allLen,tX]
 refine CallK.of (hpo) (by first | exact .inl rfl | exact .inr (by simp)) (by simp) ?_
 have e1:(rndI cs).map (pI ps) = rptC ps cs:=rfl
 simp (maxSteps:=999999) (disch:=first|exact {}|omega|simp) [Lw,Lm,Lt,Lo,Ln,allLen,e1,hl1,tY,tY']
 refine CallK.of (hst) (by first | exact .inl rfl | exact .inr (by simp)) (by simp) ?_
 have e2:bendN (rptC ps cs) (rptC ps cs).length = corC ps cs:=rfl
 simp (maxSteps:=999999) (disch:=first|exact {}|omega|simp) [Lw,Lm,Lt,Lo,Ln,allLen,e2,tZ]
 refine CallK.of (hro) (by first | exact .inl rfl | exact .inr (by simp)) (by simp) ?_
 simp (maxSteps:=999999) (disch:=first|exact {}|omega|simp) [Lw,Lm,Lt,Lo,Ln,allLen,tR]
 refine CallK.of (hcx) (by first | exact .inl rfl | exact .inr (by simp)) (by simp) ?_
 simp (maxSteps:=999999) (disch:=first|exact {}|omega|simp) [Lw,Lm,Lt,Lo,Ln,allLen]
 by_cases hp:polI (rot0 (corC ps cs)) = true
 ·have ha:arrI ps cs = rndI cs:=by unfold arrI; rw [if_pos hp]
  simp (maxSteps:=999999) (disch:=first|exact {}|omega|simp) [Lw,Lm,Lt,Lo,Ln,allLen,hp,tX,ha]
 ·have ha:arrI ps cs = backL (rndI cs):=by unfold arrI; rw [if_neg hp]
  have hp':polI (rot0 (corC ps cs)) = false:=by simpa using hp
  rw [ha]
  clear ha hpo hst hro hcx hb hcp e1 e2 tX tY tY' tZ tR r1
  generalize rndI cs = L at *
  obtain ⟨x,t,rfl⟩:∃ x t,L = x :: t:=by
   cases L with
   | nil=>simp at r3
   | cons x t=>exact ⟨x,t,rfl⟩
  rw [backL_at]
  have hlt:(x :: t).length = t.length + 1:=rfl
  rw [hlt] at r2
  have tT:List.take (t.length + 1) ((x :: t.reverse).map encI) = (x :: t.reverse).map encI:=List.take_of_length_le (by simp)
  simp (maxSteps:=999999) (disch:=first|exact {}|omega|simp) [Lw,Lm,Lt,Lo,Ln,allLen,hp']
  refine MutK.of (c140 x t (by omega)) (by simp) (by simp) (by simp) (by simp) (by simp) ?_
  simp (maxSteps:=999999) (disch:=first|exact {}|omega|simp) [Lw,Lm,Lt,Lo,Ln,allLen,tT]
  exact (List.take_of_length_le (by simp)).symm
theorem c18 (ps:List Pt) (cs:List Cr) (h:(ps.length:Int) ≤ 1048576) (hc:(cs.length:Int) ≤ 1048576):PC E 18 [.agg (encPa ps cs)] [.own 1 ((arrS ps cs).map encI)]:=by
 have har:=fun hv=>c58 ps cs hv h hc
 refine PC_start hE Proofs.Tryz.func18 rfl rfl Proofs.Tryz.ntmps18 (by kernel_rfl) (by kernel_rfl) (by simp) ?_
 simp (maxSteps:=999999) (disch:=first|exact {}|omega|simp) [Lw,Lm,Lt,Lo,Ln,allLen,encPa]
 refine CallK.of (c57 ps cs h hc) (by first | exact .inl rfl | exact .inr (by simp)) (by simp) ?_
 simp (maxSteps:=999999) (disch:=first|exact {}|omega|simp) [Lw,Lm,Lt,Lo,Ln,allLen]
 by_cases hv:vB ps cs = true
 ·have e:arrS ps cs = arrI ps cs:=by unfold arrS; rw [if_pos hv]
  have t:List.take (arrI ps cs).length ((arrI ps cs).map encI) = (arrI ps cs).map encI:=List.take_of_length_le (by simp)
  simp (maxSteps:=999999) (disch:=first|exact {}|omega|simp) [Lw,Lm,Lt,Lo,Ln,allLen,hv]
  refine CallK.of (har hv) (by first | exact .inl rfl | exact .inr (by simp)) (by simp) ?_
  simp (maxSteps:=999999) (disch:=first|exact {}|omega|simp) [Lw,Lm,Lt,Lo,Ln,allLen,e,t]
 ·have e:vB ps cs = false:=by simpa using hv
  have n1:arrS ps cs = []:=by unfold arrS; rw [e]; rfl
  simp (maxSteps:=999999) (disch:=first|exact {}|omega|simp) [Lw,Lm,Lt,Lo,Ln,allLen,e,n1]
theorem c16 (ps:List Pt) (cs:List Cr) (h:(ps.length:Int) ≤ 1048576) (hc:(cs.length:Int) ≤ 1048576):PC E 16 [.agg (encPa ps cs)] [.own 1 ((arrS ps cs).map encI)]:=by
 refine PC_start hE Proofs.Tryz.func16 rfl rfl Proofs.Tryz.ntmps16 (by kernel_rfl) (by kernel_rfl) (by simp) ?_
 simp (maxSteps:=999999) (disch:=first|exact {}|omega|simp) [Lw,Lm,Lt,Lo,Ln,allLen,encPa]
 refine CallK.of (c54 ps cs h hc) (by first | exact .inl rfl | exact .inr (by simp)) (by simp) ?_
 simp (maxSteps:=999999) (disch:=first|exact {}|omega|simp) [Lw,Lm,Lt,Lo,Ln,allLen]
 have tP:List.take (arrS ps cs).length ((arrS ps cs).map encI) = (arrS ps cs).map encI:=List.take_of_length_le (by simp)
 by_cases hv:vB ps cs = true
 ·simp (maxSteps:=999999) (disch:=first|exact {}|omega|simp) [Lw,Lm,Lt,Lo,Ln,allLen,hv,tP]
 ·have e:vB ps cs = false:=by simpa using hv
  have n1:arrS ps cs = []:=by unfold arrS; rw [e]; rfl
  simp (maxSteps:=999999) (disch:=first|exact {}|omega|simp) [Lw,Lm,Lt,Lo,Ln,allLen,e,n1]
end Go.Vai
namespace Go.Vai
theorem c3 (ps:List Pt) (cs:List Cr) (h:ps.length ≤ maxLen) (hc:cs.length ≤ maxLen):PC E 3 [.agg (encPa ps cs)] [.i (.bool true)]:=by
 have m:maxLen = 9223372036854775807:=by decide
 refine law_start hE Proofs.Tryz.func3 rfl rfl Proofs.Tryz.ntmps3 (by kernel_rfl) (by simp) fun F w a hx hf0=>?_
 by_cases hle:(ps.length:Int) + cs.length ≤ 1048576
 rotate_left
 ·refine segEnd hE hx (Back.refl _ _) hf0 (by kernel_rfl) ?_
  simp (maxSteps:=999999) (disch:=first|exact {}|omega|simp) [Lw,Lm,Lt,Lo,Ln,allLen,encPa]
  refine CallK.of (c15 ps cs (by omega) (by omega)) (by first | exact .inl rfl | exact .inr (by simp)) (by simp) ?_
  simp (maxSteps:=999999) (disch:=first|exact {}|omega|simp) [Lw,Lm,Lt,Lo,Ln,allLen,hle]
 have g1:(ps.length:Int) ≤ 1048576:=by omega
 have g2:(cs.length:Int) ≤ 1048576:=by omega
 have hvl:=arrS_le (ps:=ps) g2
 have cS:=c16 ps cs g1 g2
 have cI:=c18 ps cs g1 g2
 generalize arrS ps cs = V at hvl cS cI
 have g3:(V.length:Int) ≤ 1048576:=by omega
 have tV:List.take V.length (V.map encI) = V.map encI:=List.take_of_length_le (by simp)
 refine seg hE 0 ⟨[(1,.ptr 1 0 0)],[(1,⟨2,[encPa ps cs]⟩)]⟩ hx (Back.refl _ _) hf0 (by kernel_rfl) (by kernel_rfl) ?_ fun a w1 hf1=>?_
 ·simp (maxSteps:=999999) (disch:=first|exact {}|omega|simp) [Lw,Lm,Lt,Lo,Ln,allLen,cutC,encPa]
  exact ⟨by simp (maxSteps:=999999) (disch:=first|exact {}|omega|simp) [Lw,Lm,Lt,Lo,Ln,allLen],by simp (maxSteps:=999999) (disch:=first|exact {}|omega|simp) [Lw,Lm,Lt,Lo,Ln,allLen,encPa],by simp (maxSteps:=999999) (disch:=first|exact {}|omega|simp) [Lw,Lm,Lt,Lo,Ln,allLen]⟩
 simp only [restN]
 have eF:(fun b=>F b ∨ False) = F:=by funext b; simp
 obtain ⟨zA,FA,bk,off,cv,hzA,hxA,hbA,hsA,-,hGA,hfA,hbkA,hcA⟩:=freeze_var (R:=fun _=>False) (F:=F) (ys:=encPa ps cs) (by rw [eF]; exact hx) (by rw [eF]; exact hf1) (fun _ _ h=>h) hx.glob rfl rfl (by decide) rfl
  (fun Fc j x y v _ _ h1 h2 h3=>by rw [h1] at h2; obtain rfl:=Option.some.inj h2; exact h3)
 have eFA:(fun b=>FA b ∨ False) = FA:=by funext b; simp
 rw [eFA] at hxA hbA hfA
 rw [eF] at hbA
 subst hzA
 have hfB:=hfA.unpin (t:=1) rfl
 have e0:¬ ((1048576:Int) - ps.length - cs.length < 0):=by omega
 refine seg hE 3 ⟨[(1,.i (.ptr (encPa ps cs))),(4,.own 18 0 V.length)],[(18,⟨1,V.map encI⟩)]⟩ hxA hbA hfB (by kernel_rfl) (by kernel_rfl) ?_ fun a w2 hf2=>?_
 ·simp (maxSteps:=999999) (disch:=first|exact {}|omega|simp) [Lw,Lm,Lt,Lo,Ln,allLen,cutC,encPa]
  refine CallK.of (c15 ps cs (by omega) (by omega)) (by first | exact .inl rfl | exact .inr (by simp)) (by simp) ?_
  simp (maxSteps:=999999) (disch:=first|exact {}|omega|simp) [Lw,Lm,Lt,Lo,Ln,allLen,hle,e0,encPa]
  refine CallK.of (c17 ps cs g1 g2) (by first | exact .inl rfl | exact .inr (by simp)) (by simp) ?_
  simp (maxSteps:=999999) (disch:=first|exact {}|omega|simp) [Lw,Lm,Lt,Lo,Ln,allLen,encPa]
  refine CallK.of (cS) (by first | exact .inl rfl | exact .inr (by simp)) (by simp) ?_
  simp (maxSteps:=999999) (disch:=first|exact {}|omega|simp) [Lw,Lm,Lt,Lo,Ln,allLen,encPa]
  exact ⟨by simp (maxSteps:=999999) (disch:=first|exact {}|omega|simp) [Lw,Lm,Lt,Lo,Ln,allLen],by simp (maxSteps:=999999) (disch:=first|exact {}|omega|simp) [Lw,Lm,Lt,Lo,Ln,allLen,encPa],by simp (maxSteps:=999999) (disch:=first|exact {}|omega|simp) [Lw,Lm,Lt,Lo,Ln,allLen]⟩
 simp only [restN]
 refine wp_seq (region_hand hE 1 (S1:=⟨[(19,.agg (encPa ps cs)),(1,.i (.ptr (encPa ps cs))),(4,.own 18 0 V.length)],[(18,⟨1,V.map encI⟩)]⟩) hxA hf2 (by kernel_rfl) rfl rfl ?_ fun a w3 hf3=>?_)
 ·simp (maxSteps:=999999) (disch:=first|exact {}|omega|simp) [Lw,Lm,Lt,Lo,Ln,allLen,encPa]
  exact ⟨by simp (maxSteps:=999999) (disch:=first|exact {}|omega|simp) [Lw,Lm,Lt,Lo,Ln,allLen],by simp (maxSteps:=999999) (disch:=first|exact {}|omega|simp) [Lw,Lm,Lt,Lo,Ln,allLen,encPa],by simp (maxSteps:=999999) (disch:=first|exact {}|omega|simp) [Lw,Lm,Lt,Lo,Ln,allLen]⟩
 refine Oper.wp_mono ?_ (deepCall_wp hxA hf3 (d:=20) rfl (by decide) (vs:=[.agg (encPa ps cs)]) (by simp) (by simp) rfl (PDPat ps cs g1 g2) [(1,.i (.ptr (encPa ps cs)))] (by simp [fixB,look_cons]) _)
 rintro a' w' ⟨z1,F1,R1,v1,us,hz1,hx1,hb1,h01,hFR1,hG1,hm1,ht1,hps,hf4⟩
 have hp0:=hps (1,.i (.ptr (encPa ps cs))) (by simp)
 simp only at hp0
 subst hz1
 simp only [pinT,List.map_cons,List.map_nil,List.cons_append,List.nil_append] at hf4
 generalize us 1 = u0 at *
 clear hps hf3 hf2 hfB hfA hf1 hf0
 have htr:=ht1.tr
 obtain ⟨cv1,Rs1,rfl,q1,q2,q3,q4⟩:=htr
 have hsz:cv1.size = 2:=by rw [q1]; rfl
 obtain ⟨a1,a2,rfl⟩:∃ v1 v2,cv1 = #[v1,v2]:=by
  refine ⟨cv1[0],cv1[1], ?_⟩
  refine Array.ext (by simp [hsz]) fun j h1 h2=>?_
  match j,h2 with
  | 0,_=>rfl
  | 1,_=>rfl
 have T1:=q4 0 (.sl (encPs ps)) a1 rfl rfl
 have T2:=q4 1 (.sl (cs.map encK)) a2 rfl rfl
 refine ⟨z1,_,_,⟨[(5,.ptr 5 0 0),(1,.pin u0 (.i (.ptr (encPa ps cs)))),(4,.own 18 0 V.length)],[(5,⟨2,[[.raw a1,.raw a2]]⟩),(18,⟨1,V.map encI⟩)]⟩,hx1,hf4.recast (u':=.agg [.raw a1,.raw a2]) fun F ρ v h=>pin_raws h, ?_,fun a w5 hf5=>?_⟩
 ·simp (maxSteps:=999999) (disch:=first|exact {}|omega|simp) [Lw,Lm,Lt,Lo,Ln,allLen]
  exact ⟨by simp (maxSteps:=999999) (disch:=first|exact {}|omega|simp) [Lw,Lm,Lt,Lo,Ln,allLen],by simp (maxSteps:=999999) (disch:=first|exact {}|omega|simp) [Lw,Lm,Lt,Lo,Ln,allLen],by simp (maxSteps:=999999) (disch:=first|exact {}|omega|simp) [Lw,Lm,Lt,Lo,Ln,allLen]⟩
 show Code.wp _ _ _ _ _
 obtain ⟨z2,F2,bk2,off2,cv2,hz2,hx2,hb2,hs2,hFR2,hG2,hf6,hbk2,hc2⟩:=freeze_var (ys:=encPa ps cs) hx1 hf5 hFR1 hG1 rfl rfl (by decide) rfl
  (fun Fc j x y v k1 k2 h1 h2 h3=>by
   match j,h1,h2 with
   | 0,h1,h2 =>
    obtain rfl:=Option.some.inj h1
    obtain rfl:=Option.some.inj h2
    rw [h3.raw_eq]
    exact T1.rep.mono (fun b hb=>k1 b (.inr (q2 0 b hb))) fun b hb=>k2 b (.inr (q2 0 b hb))
   | 1,h1,h2 =>
    obtain rfl:=Option.some.inj h1
    obtain rfl:=Option.some.inj h2
    rw [h3.raw_eq]
    exact T2.rep.mono (fun b hb=>k1 b (.inr (q2 1 b hb))) fun b hb=>k2 b (.inr (q2 1 b hb))
   | j + 2,h1,h2=>simp at h1)
 subst hz2
 clear hf5 hf4
 have hb02:=hb1.trans hb2
 refine seg hE 3 ⟨[(5,.pin (.pointer (some ⟨bk2,off2,none⟩)) (.i (.ptr (encPa ps cs)))),(1,.pin u0 (.i (.ptr (encPa ps cs)))),(4,.own 18 0 V.length),(6,.own 22 0 V.length),(7,.i (.int .i64 1))],
  [(18,⟨1,V.map encI⟩),(22,⟨1,V.map encI⟩)]⟩ hx2 (hbA.trans hb02) hf6 (by kernel_rfl) (by kernel_rfl) ?_ fun a w7 hf7=>?_
 ·simp (maxSteps:=999999) (disch:=first|exact {}|omega|simp) [Lw,Lm,Lt,Lo,Ln,allLen,cutC,encPa]
  refine CallK.of (cI) (by first | exact .inl rfl | exact .inr (by simp)) (by simp) ?_
  simp (maxSteps:=999999) (disch:=first|exact {}|omega|simp) [Lw,Lm,Lt,Lo,Ln,allLen,encPa,tV]
  refine CallK.of (c19 V V g3 g3) (by first | exact .inl rfl | exact .inr (by simp)) (by simp) ?_
  simp (maxSteps:=999999) (disch:=first|exact {}|omega|simp) [Lw,Lm,Lt,Lo,Ln,allLen,encPa]
  refine CallK.of (c17 ps cs g1 g2) (by first | exact .inl rfl | exact .inr (by simp)) (by simp) ?_
  simp (maxSteps:=999999) (disch:=first|exact {}|omega|simp) [Lw,Lm,Lt,Lo,Ln,allLen,encPa]
  refine CallK.of (c20 ps cs g1 g2) (by first | exact .inl rfl | exact .inr (by simp)) (by simp) ?_
  simp (maxSteps:=999999) (disch:=first|exact {}|omega|simp) [Lw,Lm,Lt,Lo,Ln,allLen,encPa]
  exact ⟨by simp (maxSteps:=999999) (disch:=first|exact {}|omega|simp) [Lw,Lm,Lt,Lo,Ln,allLen,encPa],by simp (maxSteps:=999999) (disch:=first|exact {}|omega|simp) [Lw,Lm,Lt,Lo,Ln,allLen,encPa],by simp (maxSteps:=999999) (disch:=first|exact {}|omega|simp) [Lw,Lm,Lt,Lo,Ln,allLen]⟩
 simp only [restN]
 have hf8:=hf7.view (t:=5) (u':=.i (.ptr [.raw a1,.raw a2])) rfl (fun F' ρ' hsub _=>.i _ _ (.ptr _ bk2 off2 cv2 (hsub _ (.inl hbk2))
  (fun j x hj=>by rw [cell_of_heap (same_of_fits hx2 hf7 bk2 (.inl hbk2))]; exact (hc2 j x hj).1) fun j x hj=>(hc2 j x hj).2.mono hsub fun b hb=>same_of_fits hx2 hf7 b hb))
 refine wp_seq (region_hand hE 2 (S1:=⟨[(32,.agg [.raw a1,.raw a2]),(33,.i (.int .i64 1)),(1,.pin u0 (.i (.ptr (encPa ps cs)))),(4,.own 18 0 V.length),(6,.own 22 0 V.length)],
  [(18,⟨1,V.map encI⟩),(22,⟨1,V.map encI⟩)]⟩) hx2 hf8 (by kernel_rfl) rfl rfl ?_ fun a w9 hf9=>?_)
 ·simp (maxSteps:=999999) (disch:=first|exact {}|omega|simp) [Lw,Lm,Lt,Lo,Ln,allLen]
  exact ⟨by simp (maxSteps:=999999) (disch:=first|exact {}|omega|simp) [Lw,Lm,Lt,Lo,Ln,allLen,encPa],by simp (maxSteps:=999999) (disch:=first|exact {}|omega|simp) [Lw,Lm,Lt,Lo,Ln,allLen],by simp (maxSteps:=999999) (disch:=first|exact {}|omega|simp) [Lw,Lm,Lt,Lo,Ln,allLen]⟩
 have e1:∀ b,R1 b → z2.w.heap[b]? = z1.w.heap[b]?:=fun b hb=>same_of_back hx1 hb2 b (.inr hb)
 have e9:∀ b,R1 b → w9.heap[b]? = z1.w.heap[b]?:=fun b hb=>(same_of_fits hx2 hf9 b (.inr hb)).trans (e1 b hb)
 have hf10:=hf9.pinAgg (t:=32) (cs:=#[a1,a2]) (y:=.agg (encPa ps cs)) (by simp [look_cons]) (fun F' ρ' hsub=>.agg _ _ rfl fun j x v hj hv=>by
  match j,hj,hv with
  | 0,hj,hv =>
   obtain rfl:=Option.some.inj hj
   obtain rfl:=Option.some.inj hv
   exact T1.rep.mono (fun b hb=>hsub b (.inr (q2 0 b hb))) fun b hb=>e9 b (q2 0 b hb)
  | 1,hj,hv =>
   obtain rfl:=Option.some.inj hj
   obtain rfl:=Option.some.inj hv
   exact T2.rep.mono (fun b hb=>hsub b (.inr (q2 1 b hb))) fun b hb=>e9 b (q2 1 b hb)
  | j + 2,hj,hv=>simp at hv)
 have ht2:=ht1.keep hb2.kept.size e1
 have hp2:RepA F2 (fun _=>none) z2.w (.i (.ptr (encPa ps cs))) u0:=hp0.fix rfl hs2 fun b hb=>same_of_back hx1 hb2 b (.inl hb)
 refine Oper.wp_mono ?_ (meltCall_wp hx2 hb02 hf10 (fun b hb=>hs2 b (h01 b hb)) hFR2 hG2 hm1 ht2 (d:=34) rfl (by decide) rfl (by simp [look_cons]) (by simp [look_cons]) (PWPat ps cs 1 (by omega) (by omega))
  [(1,.pin u0 (.i (.ptr (encPa ps cs)))),(4,.own 18 0 V.length),(6,.own 22 0 V.length)]
  ⟨⟨by simp [look_cons],.inr (.inr ⟨_,_,rfl,rfl,hp2⟩)⟩,⟨by simp [look_cons],.inr (.inl ⟨_,_,_,rfl⟩)⟩,⟨by simp [look_cons],.inr (.inl ⟨_,_,_,rfl⟩)⟩,trivial⟩
  ⟨flatInt V,flatInt V,trivial⟩ _)
 rintro a' w' ⟨z3,hx3,hb3,hf11⟩
 refine ⟨z3,F2,_,⟨[(1,.pin u0 (.i (.ptr (encPa ps cs)))),(7,.i (.int .i64 (1 + 6 * ps.length + 3 * cs.length))),(4,.own 18 0 V.length),(6,.own 22 0 V.length)],
  [(18,⟨1,V.map encI⟩),(22,⟨1,V.map encI⟩)]⟩,hx3,hf11, ?_,fun a w12 hf12=>?_⟩
 ·simp (maxSteps:=999999) (disch:=first|exact {}|omega|simp) [Lw,Lm,Lt,Lo,Ln,allLen]
  exact ⟨by simp (maxSteps:=999999) (disch:=first|exact {}|omega|simp) [Lw,Lm,Lt,Lo,Ln,allLen,encPa],by simp (maxSteps:=999999) (disch:=first|exact {}|omega|simp) [Lw,Lm,Lt,Lo,Ln,allLen],by simp (maxSteps:=999999) (disch:=first|exact {}|omega|simp) [Lw,Lm,Lt,Lo,Ln,allLen]⟩
 show Code.wp _ _ _ _ _
 refine segEnd hE hx3 (hbA.trans hb3) hf12 (by kernel_rfl) ?_
 have e2:¬ ((1:Int) + 6 * ps.length + 3 * cs.length < 0):=by omega
 have e3:¬ ((1:Int) + V.length < 0):=by omega
 have cm:=c22 V 1 (by omega) (by omega)
 have htm:((marks 1 V.length).map encI).take V.length = (marks 1 V.length).map encI:=by rw [List.take_of_length_le (by simp)]
 have hfm:=flatInt (marks 1 V.length)
 clear hf12 hf11 hf10 hf9 hf8 hf7 hf6
 simp (maxSteps:=999999) (disch:=first|exact {}|omega|simp) [Lw,Lm,Lt,Lo,Ln,allLen,e2,tV]
 refine CallK.of (c19 V V g3 g3) (by first | exact .inl rfl | exact .inr (by simp)) (by simp) ?_
 simp (maxSteps:=999999) (disch:=first|exact {}|omega|simp) [Lw,Lm,Lt,Lo,Ln,allLen]
 refine MutK.of cm (by simp) (by simp) (by simp) (by simp) (by simp) ?_
 simp (maxSteps:=999999) (disch:=first|exact {}|omega|simp) [Lw,Lm,Lt,Lo,Ln,allLen,htm]
 refine CallK.of (c23 V.length 1 (by omega) (by omega)) (by first | exact .inl rfl | exact .inr (by simp)) (by simp) ?_
 simp (maxSteps:=999999) (disch:=first|exact {}|omega|simp) [Lw,Lm,Lt,Lo,Ln,allLen,e3,encPa]
 refine CallK.of (c17 ps cs g1 g2) (by first | exact .inl rfl | exact .inr (by simp)) (by simp) ?_
 simp (maxSteps:=999999) (disch:=first|exact {}|omega|simp) [Lw,Lm,Lt,Lo,Ln,allLen,encPa]
 refine CallK.of (cI) (by first | exact .inl rfl | exact .inr (by simp)) (by simp) ?_
 simp (maxSteps:=999999) (disch:=first|exact {}|omega|simp) [Lw,Lm,Lt,Lo,Ln,allLen,tV]
 refine CallK.of (c19 V V g3 g3) (by first | exact .inl rfl | exact .inr (by simp)) (by simp) ?_
 simp (maxSteps:=999999) (disch:=first|exact {}|omega|simp) [Lw,Lm,Lt,Lo,Ln,allLen,htm]
 refine CallK.of (c23 V.length 1 (by omega) (by omega)) (by first | exact .inl rfl | exact .inr (by simp)) (by simp) ?_
 simp (maxSteps:=999999) (disch:=first|exact {}|omega|simp) [Lw,Lm,Lt,Lo,Ln,allLen,e3]
end Go.Vai
