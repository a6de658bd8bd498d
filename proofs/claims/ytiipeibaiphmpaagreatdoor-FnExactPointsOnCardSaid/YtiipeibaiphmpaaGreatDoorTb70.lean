/- Texts of this claim: Zp6, Zp7, Zp8, Zp9, Zp10, Zp11. -/
import Derived.Test.YtiipeibaiphmpaaGreatDoorTb71
import Derived.Test.YtiipeibaiphmpaaGreatDoorTv18
import Derived.Test.YtiipeibaiphmpaaGreatDoorTb1
set_option linter.unusedVariables false
set_option linter.unusedSimpArgs false
set_option maxHeartbeats 4000000
namespace Go.Vai
theorem c68 (l m:Li) {K M:Nat} (h:NB K M l.off) (h':NB K M m.off) (hK:K ≤ 50) (hM:576 * M ≤ 4611686018427387904) (h0:0 ≤ l.dir) (h1:l.dir ≤ 7) (g0:0 ≤ m.dir) (g1:m.dir ≤ 7) (hne:l.dir ≠ m.dir) :
  PC E 68 [.agg (encLi l),.agg (encLi m)] [.agg (encP (meetP l m))]:=by
 refine zP hE Proofs.Tryz.func68 Proofs.Tryz.ntmps68 rfl rfl ?_
 have hl:=vec_PB (d:=l.dir + 4) (by omega) (by omega)
 have hm:=vec_PB (d:=m.dir + 4) (by omega) (by omega)
 have hd:=det_Dv h0 h1 g0 g1 hne
 simp (maxSteps:=999999) (disch:=first|exact {}|omega|simp) [zS,encLi]
 refine zC (c132 (l.dir + 4) (by omega) (by omega)) ?_
 rw [mod16 (by omega) (by omega)]
 simp (maxSteps:=999999) (disch:=first|exact {}|omega|simp) [zS]
 refine zC (c124 (vec (l.dir + 4))) ?_
 simp (maxSteps:=999999) (disch:=first|exact {}|omega|simp) [zS,encP]
 refine zC (c132 (m.dir + 4) (by omega) (by omega)) ?_
 rw [mod16 (by omega) (by omega)]
 simp (maxSteps:=999999) (disch:=first|exact {}|omega|simp) [zS]
 refine zC (c124 (vec (m.dir + 4))) ?_
 simp (maxSteps:=999999) (disch:=first|exact {}|omega|simp) [zS,encP]
 refine zC (c133 (vec (l.dir + 4)).x (vec (m.dir + 4)).y hl.1 hm.2 (by decide) (by decide) (by decide)) ?_
 simp (maxSteps:=999999) (disch:=first|exact {}|omega|simp) [zS,encP]
 refine zC (c133 (vec (l.dir + 4)).y (vec (m.dir + 4)).x hl.2 hm.1 (by decide) (by decide) (by decide)) ?_
 simp (maxSteps:=999999) (disch:=first|exact {}|omega|simp) [zS]
 refine zC (c128 _ _ (hl.1.vecm hm.2) (hl.2.vecm hm.1) (by decide) (by decide)) ?_
 simp (maxSteps:=999999) (disch:=first|exact {}|omega|simp) [zS,encP,encLi]
 refine zC (c133 l.off (vec (m.dir + 4)).y h hm.2 (by omega) (by omega) (by omega)) ?_
 simp (maxSteps:=999999) (disch:=first|exact {}|omega|simp) [zS,encP,encLi]
 refine zC (c133 m.off (vec (l.dir + 4)).y h' hl.2 (by omega) (by omega) (by omega)) ?_
 simp (maxSteps:=999999) (disch:=first|exact {}|omega|simp) [zS]
 refine zC (c128 _ _ (h.vecm hm.2) (h'.vecm hl.2) (by omega) (by omega)) ?_
 simp (maxSteps:=999999) (disch:=first|exact {}|omega|simp) [zS]
 refine zC (c134 _ (detL l m) ((h.vecm hm.2).sub (h'.vecm hl.2)) hd hK (by omega)) ?_
 simp (maxSteps:=999999) (disch:=first|exact {}|omega|simp) [zS,encP,encLi]
 refine zC (c133 m.off (vec (l.dir + 4)).x h' hl.1 (by omega) (by omega) (by omega)) ?_
 simp (maxSteps:=999999) (disch:=first|exact {}|omega|simp) [zS,encP,encLi]
 refine zC (c133 l.off (vec (m.dir + 4)).x h hm.1 (by omega) (by omega) (by omega)) ?_
 simp (maxSteps:=999999) (disch:=first|exact {}|omega|simp) [zS]
 refine zC (c128 _ _ (h'.vecm hl.1) (h.vecm hm.1) (by omega) (by omega)) ?_
 simp (maxSteps:=999999) (disch:=first|exact {}|omega|simp) [zS]
 refine zC (c134 _ (detL l m) ((h'.vecm hl.1).sub (h.vecm hm.1)) hd hK (by omega)) ?_
 simp (maxSteps:=999999) (disch:=first|exact {}|omega|simp) [zS,meetP,over,encP,encN]
def halfR (l:Li) (s:Int) (ps:List Pt):List Pt:=if hasN l s ps ps.length = true then cutN l s ps ps.length else []
def vaI2 (v:Va) (l:List Pt):AV:=match v with
 | .n=>.esl
 | .a=>.own 48 0 l.length
 | .b=>.own 68 0 l.length
def vaH2 (v:Va) (l:List Pt):List (Nat × Obj):=match v with
 | .n=>[]
 | .a=>[(48,⟨6,encPs l⟩)]
 | .b=>[(68,⟨6,encPs l⟩)]
theorem thru_eq {p q:Pt} (h:0 ≤ dirR (pminus q p)):lat p (dirR (pminus q p) % 8) = sideL p q:=rfl
theorem cside2 (l:Li) (p:Pt) {K M M':Nat} (h:PB K M p) (h':NB K M' l.off) (hK:K ≤ 60) (hM:6 * M + M' ≤ 4611686018427387904) (h0:0 ≤ l.dir) (h1:l.dir ≤ 7) :
  PC E 65 [.agg (encLi l),.agg (encP p)] [.i (.int .i64 (sd l p))]:=c65 l p h h' hK hM h0 (by omega)
theorem c287 (ps:List Pt) (l:Li) (s:Int) {K M M':Nat} (h:∀ p ∈ ps,PB (K + 3) M' p) (hl:NB K M l.off) (h0:0 ≤ l.dir) (h1:l.dir ≤ 7) (hg:Good K M l s ps) (hM:576 * M ≤ M') (hK:K ≤ 40)
  (hM':16 * M' ≤ 4611686018427387904) (hs:s = 1 ∨ s = -1) (hn:((2 * ps.length:Nat):Int) ≤ 1099511627776) :
  PC E 287 [.i (.sl (encPs ps)),.agg (encLi l),.i (.int .i64 s)] [.own 6 (encPs (halfR l s ps))]:=by
 have hl3:NB (K + 3) (8 * M) l.off:=by
  have:=hl.up (K':=K + 3) (by omega)
  have e:K + 3 - K = 3:=by omega
  rw [e] at this; exact this.mono (by omega)
 refine zP hE Proofs.Tryz.func287 Proofs.Tryz.ntmps287 rfl rfl ?_
 simp (maxSteps:=999999) (disch:=first|exact {}|omega|simp) [zS]
 refine XL.by hE (ι:={ k:Nat × Va // k.1 ≤ ps.length ∧ vaOk k.2 (cutN l s ps k.1) }) (fun k=>⟨[(0,.i (.sl (encPs ps))),(2,.i (.int .i64 s)),(4,.ptr 4 0 0),(7,vaI2 k.1.2 (cutN l s ps k.1.1)),(8,.i (.bool (hasN l s ps k.1.1))),(9,.i (.int .i64 k.1.1))],(4,⟨4,[encLi l]⟩) :: vaH2 k.1.2 (cutN l s ps k.1.1)⟩)
  (fun k=>ps.length - k.1.1) ⟨(0,.n),Nat.zero_le _,rfl⟩ ⟨by simp [vaI2,hasN],by simp [vaH2],by simp [vaI2]⟩ (by kernel_rfl) ?_
 rintro ⟨⟨k,v⟩,hk,hv⟩
 simp only at hk hv
 by_cases hlt:k < ps.length
 ·have hmod:(k + 1) % ps.length < ps.length:=Nat.mod_lt _ (by omega)
  have hp:=h _ (nth_mem hlt)
  have hq:PB (K + 3) M' (nxt ps k):=h _ (nth_mem hmod)
  have hcl:=cutN_len l s ps k
  have hr1:=sd_range l (nth ps k)
  have hr2:=sd_range l (nxt ps k)
  have gk:=hg k hlt
  have eq2:(encPs ps)[(k + 1) % ps.length]? = some (encP (nxt ps k)):=encPs_get hmod
  have hne:¬ ps = []:=by rintro rfl; simp at hlt
  have rm:((k:Int) + 1).tmod (ps.length:Int) = (((k + 1) % ps.length:Nat):Int):=by
   rw [Int.tmod_eq_emod_of_nonneg (by omega)]; simp
  have hm0:¬ (((k:Int) + 1) % (ps.length:Int) < 0):=by have:=Int.emod_nonneg ((k:Int) + 1) (b:=(ps.length:Int)) (by omega); omega
  have hm1:(((k:Int) + 1) % (ps.length:Int)).toNat = (k + 1) % ps.length:=by
   have:((k:Int) + 1) % (ps.length:Int) = (((k + 1) % ps.length:Nat):Int):=by simp
   rw [this]; rfl
  have w1:=wr_s hs hr1
  have w2:=wr_s hs hr2
  have w3:=wr_ss hs hr1 hr2
  have c1:=cside2 l (nth ps k) hp hl3 (by omega) (by omega) h0 h1
  have c2:=cside2 l (nxt ps k) hq hl3 (by omega) (by omega) h0 h1
  generalize hA:s * sd l (nth ps k) = A at *
  generalize hB:s * sd l (nxt ps k) = B at *
  have lP:∀ p:Pt,(encP p).length = 6:=fun _=>rfl
  have lL:∀ l:Li,(encLi l).length = 4:=fun _=>rfl
  have tk:List.take (cutN l s ps k).length (List.map encP (cutN l s ps k)) = List.map encP (cutN l s ps k):=List.take_of_length_le (by simp)
  have tk2:∀ p:Pt,List.take ((cutN l s ps k).length + 1) (List.map encP (cutN l s ps k) ++ [encP p]) = List.map encP (cutN l s ps k) ++ [encP p]:=fun p=>List.take_of_length_le (by simp)
  have big1:((cutN l s ps k).length:Int) + 1 ≤ 140737488355328:=by omega
  have big2:(((cutN l s ps k).length:Int) + 1) * 48 ≤ 140737488355328:=by omega
  have big3:((cutN l s ps k).length:Int) + 1 + 1 ≤ 140737488355328:=by omega
  have big4:(((cutN l s ps k).length:Int) + 1 + 1) * 48 ≤ 140737488355328:=by omega
  have hdr:=dirR_range (pminus (nxt ps k) (nth ps k))
  cases v with
  | n =>
   simp only [vaOk] at hv
   simp (maxSteps:=999999) (disch:=first|exact {}|omega|simp) [zS,hlt,encPs_get hlt,vaI2,vaH2,hne,rm,hm0,hm1,hmod,eq2,lP,lL]
   refine zC (c1) ?_
   simp (maxSteps:=999999) (disch:=first|exact {}|omega|simp) [zS,hlt,encPs_get hlt,vaI2,vaH2,hne,rm,hm0,hm1,hmod,eq2,lP,lL,w1,hA]
   refine zC (c2) ?_
   simp (maxSteps:=999999) (disch:=first|exact {}|omega|simp) [zS,hlt,encPs_get hlt,vaI2,vaH2,hne,rm,hm0,hm1,hmod,eq2,lP,lL,w2,hA,hB]
   cases hh:hasN l s ps k
   ·(first | refine Gd.dec (fun h4=>?_) (fun h4=>?_) | refine Gd.intro (fun h4=>?_) (fun h4=>?_)) <;> simp (maxSteps:=999999) (disch:=first|exact {}|omega|simp) [zS,h4]
    ·simp (maxSteps:=999999) (disch:=first|exact {}|omega|simp) [zS,h4,w3,lP,lL,mem_encPs,most,big1,big2,hh]
     (first | refine Gd.dec (fun h5=>?_) (fun h5=>?_) | refine Gd.intro (fun h5=>?_) (fun h5=>?_)) <;> simp (maxSteps:=999999) (disch:=first|exact {}|omega|simp) [zS,h5]
     ·obtain ⟨g1,g2,g3⟩:=gk h5
      refine zC (c126 (nxt ps k) (nth ps k) hq hp (by omega) (by omega)) ?_
      simp (maxSteps:=999999) (disch:=first|exact {}|omega|simp) [zS]
      refine zC (c125 _ (hq.minus hp) (by omega) (by omega)) ?_
      simp (maxSteps:=999999) (disch:=first|exact {}|omega|simp) [zS]
      refine zC (c135 (nth ps k) (dirR (pminus (nxt ps k) (nth ps k))) hp (by omega) (by omega) (by omega) (by omega)) ?_
      rw [thru_eq g1]
      simp (maxSteps:=999999) (disch:=first|exact {}|omega|simp) [zS,lP,lL]
      refine zC (c68 (sideL (nth ps k) (nxt ps k)) l g3 hl (by omega) (by omega) (sideL_dir _ _).1 (sideL_dir _ _).2 h0 h1 g2) ?_
      simp (maxSteps:=999999) (disch:=first|exact {}|omega|simp) [zS,lP,lL,mem_encPs,most,big1,big2,big3,big4]
      have hcut:cutN l s ps (k + 1) = cutN l s ps k ++ cutF l s (nth ps k) (nxt ps k):=rfl
      simp only [cutF,hA,hB,h4,h5,hv,if_true,if_false,List.nil_append,List.append_nil,List.append_assoc,List.cons_append] at hcut
      generalize meetP (sideL (nth ps k) (nxt ps k)) l = X at *
      generalize sideL (nth ps k) (nxt ps k) = Y at *
      (refine ⟨⟨(k + 1,.a),by omega,trivial⟩,by (simp; try omega), ?_⟩; constructor <;> (simp (maxSteps:=999999) (disch:=first|exact {}|omega|simp) [zS,hcut,hA,hB,h4,h5,hv,hasN,hh,vaI2,vaH2,encPs,tk,tk2]) <;> (try omega))
     ·(refine ⟨⟨(k + 1,.a),by omega,trivial⟩,by (simp; try omega), ?_⟩; constructor <;> (simp (maxSteps:=999999) (disch:=first|exact {}|omega|simp) [zS,cutN,cutF,hA,hB,h4,h5,hv,hasN,hh,vaI2,vaH2,encPs,tk,tk2]) <;> (try omega))
    ·have h40:¬ 0 < A:=by omega
     simp (maxSteps:=999999) (disch:=first|exact {}|omega|simp) [zS,h4,w3,lP,lL,hh]
     (first | refine Gd.dec (fun h5=>?_) (fun h5=>?_) | refine Gd.intro (fun h5=>?_) (fun h5=>?_)) <;> simp (maxSteps:=999999) (disch:=first|exact {}|omega|simp) [zS,h5]
     ·obtain ⟨g1,g2,g3⟩:=gk h5
      refine zC (c126 (nxt ps k) (nth ps k) hq hp (by omega) (by omega)) ?_
      simp (maxSteps:=999999) (disch:=first|exact {}|omega|simp) [zS]
      refine zC (c125 _ (hq.minus hp) (by omega) (by omega)) ?_
      simp (maxSteps:=999999) (disch:=first|exact {}|omega|simp) [zS]
      refine zC (c135 (nth ps k) (dirR (pminus (nxt ps k) (nth ps k))) hp (by omega) (by omega) (by omega) (by omega)) ?_
      rw [thru_eq g1]
      simp (maxSteps:=999999) (disch:=first|exact {}|omega|simp) [zS,lP,lL]
      refine zC (c68 (sideL (nth ps k) (nxt ps k)) l g3 hl (by omega) (by omega) (sideL_dir _ _).1 (sideL_dir _ _).2 h0 h1 g2) ?_
      simp (maxSteps:=999999) (disch:=first|exact {}|omega|simp) [zS,lP,lL,mem_encPs,most,big1,big2,big3,big4]
      have hcut:cutN l s ps (k + 1) = cutN l s ps k ++ cutF l s (nth ps k) (nxt ps k):=rfl
      simp only [cutF,hA,hB,h4,h5,hv,if_true,if_false,List.nil_append,List.append_nil,List.append_assoc,List.cons_append] at hcut
      generalize meetP (sideL (nth ps k) (nxt ps k)) l = X at *
      generalize sideL (nth ps k) (nxt ps k) = Y at *
      (refine ⟨⟨(k + 1,.b),by omega,trivial⟩,by (simp; try omega), ?_⟩; constructor <;> (simp (maxSteps:=999999) (disch:=first|exact {}|omega|simp) [zS,hcut,hA,hB,h4,h5,hv,hasN,hh,vaI2,vaH2,encPs,tk,tk2]) <;> (try omega))
     ·(refine ⟨⟨(k + 1,.n),by omega,by simp [vaOk,cutN,cutF,hA,hB,h4,h5,hv]⟩,by (simp; try omega), ?_⟩; constructor <;> (simp (maxSteps:=999999) (disch:=first|exact {}|omega|simp) [zS,cutN,cutF,hA,hB,h4,h5,h40,hv,hasN,hh,vaI2,vaH2,encPs,tk,tk2]) <;> (try omega))
   ·(first | refine Gd.dec (fun h4=>?_) (fun h4=>?_) | refine Gd.intro (fun h4=>?_) (fun h4=>?_)) <;> simp (maxSteps:=999999) (disch:=first|exact {}|omega|simp) [zS,h4]
    ·simp (maxSteps:=999999) (disch:=first|exact {}|omega|simp) [zS,h4,w3,lP,lL,mem_encPs,most,big1,big2,hh]
     (first | refine Gd.dec (fun h5=>?_) (fun h5=>?_) | refine Gd.intro (fun h5=>?_) (fun h5=>?_)) <;> simp (maxSteps:=999999) (disch:=first|exact {}|omega|simp) [zS,h5]
     ·obtain ⟨g1,g2,g3⟩:=gk h5
      refine zC (c126 (nxt ps k) (nth ps k) hq hp (by omega) (by omega)) ?_
      simp (maxSteps:=999999) (disch:=first|exact {}|omega|simp) [zS]
      refine zC (c125 _ (hq.minus hp) (by omega) (by omega)) ?_
      simp (maxSteps:=999999) (disch:=first|exact {}|omega|simp) [zS]
      refine zC (c135 (nth ps k) (dirR (pminus (nxt ps k) (nth ps k))) hp (by omega) (by omega) (by omega) (by omega)) ?_
      rw [thru_eq g1]
      simp (maxSteps:=999999) (disch:=first|exact {}|omega|simp) [zS,lP,lL]
      refine zC (c68 (sideL (nth ps k) (nxt ps k)) l g3 hl (by omega) (by omega) (sideL_dir _ _).1 (sideL_dir _ _).2 h0 h1 g2) ?_
      simp (maxSteps:=999999) (disch:=first|exact {}|omega|simp) [zS,lP,lL,mem_encPs,most,big1,big2,big3,big4]
      have hcut:cutN l s ps (k + 1) = cutN l s ps k ++ cutF l s (nth ps k) (nxt ps k):=rfl
      simp only [cutF,hA,hB,h4,h5,hv,if_true,if_false,List.nil_append,List.append_nil,List.append_assoc,List.cons_append] at hcut
      generalize meetP (sideL (nth ps k) (nxt ps k)) l = X at *
      generalize sideL (nth ps k) (nxt ps k) = Y at *
      (refine ⟨⟨(k + 1,.a),by omega,trivial⟩,by (simp; try omega), ?_⟩; constructor <;> (simp (maxSteps:=999999) (disch:=first|exact {}|omega|simp) [zS,hcut,hA,hB,h4,h5,hv,hasN,hh,vaI2,vaH2,encPs,tk,tk2]) <;> (try omega))
     ·(refine ⟨⟨(k + 1,.a),by omega,trivial⟩,by (simp; try omega), ?_⟩; constructor <;> (simp (maxSteps:=999999) (disch:=first|exact {}|omega|simp) [zS,cutN,cutF,hA,hB,h4,h5,hv,hasN,hh,vaI2,vaH2,encPs,tk,tk2]) <;> (try omega))
    ·have h40:¬ 0 < A:=by omega
     simp (maxSteps:=999999) (disch:=first|exact {}|omega|simp) [zS,h4,w3,lP,lL,hh]
     (first | refine Gd.dec (fun h5=>?_) (fun h5=>?_) | refine Gd.intro (fun h5=>?_) (fun h5=>?_)) <;> simp (maxSteps:=999999) (disch:=first|exact {}|omega|simp) [zS,h5]
     ·obtain ⟨g1,g2,g3⟩:=gk h5
      refine zC (c126 (nxt ps k) (nth ps k) hq hp (by omega) (by omega)) ?_
      simp (maxSteps:=999999) (disch:=first|exact {}|omega|simp) [zS]
      refine zC (c125 _ (hq.minus hp) (by omega) (by omega)) ?_
      simp (maxSteps:=999999) (disch:=first|exact {}|omega|simp) [zS]
      refine zC (c135 (nth ps k) (dirR (pminus (nxt ps k) (nth ps k))) hp (by omega) (by omega) (by omega) (by omega)) ?_
      rw [thru_eq g1]
      simp (maxSteps:=999999) (disch:=first|exact {}|omega|simp) [zS,lP,lL]
      refine zC (c68 (sideL (nth ps k) (nxt ps k)) l g3 hl (by omega) (by omega) (sideL_dir _ _).1 (sideL_dir _ _).2 h0 h1 g2) ?_
      simp (maxSteps:=999999) (disch:=first|exact {}|omega|simp) [zS,lP,lL,mem_encPs,most,big1,big2,big3,big4]
      have hcut:cutN l s ps (k + 1) = cutN l s ps k ++ cutF l s (nth ps k) (nxt ps k):=rfl
      simp only [cutF,hA,hB,h4,h5,hv,if_true,if_false,List.nil_append,List.append_nil,List.append_assoc,List.cons_append] at hcut
      generalize meetP (sideL (nth ps k) (nxt ps k)) l = X at *
      generalize sideL (nth ps k) (nxt ps k) = Y at *
      (refine ⟨⟨(k + 1,.b),by omega,trivial⟩,by (simp; try omega), ?_⟩; constructor <;> (simp (maxSteps:=999999) (disch:=first|exact {}|omega|simp) [zS,hcut,hA,hB,h4,h5,hv,hasN,hh,vaI2,vaH2,encPs,tk,tk2]) <;> (try omega))
     ·(refine ⟨⟨(k + 1,.n),by omega,by simp [vaOk,cutN,cutF,hA,hB,h4,h5,hv]⟩,by (simp; try omega), ?_⟩; constructor <;> (simp (maxSteps:=999999) (disch:=first|exact {}|omega|simp) [zS,cutN,cutF,hA,hB,h4,h5,h40,hv,hasN,hh,vaI2,vaH2,encPs,tk,tk2]) <;> (try omega))
  | a =>
   simp only [vaOk] at hv
   simp (maxSteps:=999999) (disch:=first|exact {}|omega|simp) [zS,hlt,encPs_get hlt,vaI2,vaH2,hne,rm,hm0,hm1,hmod,eq2,lP,lL]
   refine zC (c1) ?_
   simp (maxSteps:=999999) (disch:=first|exact {}|omega|simp) [zS,hlt,encPs_get hlt,vaI2,vaH2,hne,rm,hm0,hm1,hmod,eq2,lP,lL,w1,hA]
   refine zC (c2) ?_
   simp (maxSteps:=999999) (disch:=first|exact {}|omega|simp) [zS,hlt,encPs_get hlt,vaI2,vaH2,hne,rm,hm0,hm1,hmod,eq2,lP,lL,w2,hA,hB]
   cases hh:hasN l s ps k
   ·(first | refine Gd.dec (fun h4=>?_) (fun h4=>?_) | refine Gd.intro (fun h4=>?_) (fun h4=>?_)) <;> simp (maxSteps:=999999) (disch:=first|exact {}|omega|simp) [zS,h4]
    ·simp (maxSteps:=999999) (disch:=first|exact {}|omega|simp) [zS,h4,w3,lP,lL,mem_encPs,most,big1,big2,hh]
     (first | refine Gd.dec (fun h5=>?_) (fun h5=>?_) | refine Gd.intro (fun h5=>?_) (fun h5=>?_)) <;> simp (maxSteps:=999999) (disch:=first|exact {}|omega|simp) [zS,h5]
     ·obtain ⟨g1,g2,g3⟩:=gk h5
      refine zC (c126 (nxt ps k) (nth ps k) hq hp (by omega) (by omega)) ?_
      simp (maxSteps:=999999) (disch:=first|exact {}|omega|simp) [zS]
      refine zC (c125 _ (hq.minus hp) (by omega) (by omega)) ?_
      simp (maxSteps:=999999) (disch:=first|exact {}|omega|simp) [zS]
      refine zC (c135 (nth ps k) (dirR (pminus (nxt ps k) (nth ps k))) hp (by omega) (by omega) (by omega) (by omega)) ?_
      rw [thru_eq g1]
      simp (maxSteps:=999999) (disch:=first|exact {}|omega|simp) [zS,lP,lL]
      refine zC (c68 (sideL (nth ps k) (nxt ps k)) l g3 hl (by omega) (by omega) (sideL_dir _ _).1 (sideL_dir _ _).2 h0 h1 g2) ?_
      simp (maxSteps:=999999) (disch:=first|exact {}|omega|simp) [zS,lP,lL,mem_encPs,most,big1,big2,big3,big4]
      have hcut:cutN l s ps (k + 1) = cutN l s ps k ++ cutF l s (nth ps k) (nxt ps k):=rfl
      simp only [cutF,hA,hB,h4,h5,hv,if_true,if_false,List.nil_append,List.append_nil,List.append_assoc,List.cons_append] at hcut
      generalize meetP (sideL (nth ps k) (nxt ps k)) l = X at *
      generalize sideL (nth ps k) (nxt ps k) = Y at *
      (refine ⟨⟨(k + 1,.a),by omega,trivial⟩,by (simp; try omega), ?_⟩; constructor <;> (simp (maxSteps:=999999) (disch:=first|exact {}|omega|simp) [zS,hcut,hA,hB,h4,h5,hv,hasN,hh,vaI2,vaH2,encPs,tk,tk2]) <;> (try omega))
     ·(refine ⟨⟨(k + 1,.a),by omega,trivial⟩,by (simp; try omega), ?_⟩; constructor <;> (simp (maxSteps:=999999) (disch:=first|exact {}|omega|simp) [zS,cutN,cutF,hA,hB,h4,h5,hv,hasN,hh,vaI2,vaH2,encPs,tk,tk2]) <;> (try omega))
    ·have h40:¬ 0 < A:=by omega
     simp (maxSteps:=999999) (disch:=first|exact {}|omega|simp) [zS,h4,w3,lP,lL,hh]
     (first | refine Gd.dec (fun h5=>?_) (fun h5=>?_) | refine Gd.intro (fun h5=>?_) (fun h5=>?_)) <;> simp (maxSteps:=999999) (disch:=first|exact {}|omega|simp) [zS,h5]
     ·obtain ⟨g1,g2,g3⟩:=gk h5
      refine zC (c126 (nxt ps k) (nth ps k) hq hp (by omega) (by omega)) ?_
      simp (maxSteps:=999999) (disch:=first|exact {}|omega|simp) [zS]
      refine zC (c125 _ (hq.minus hp) (by omega) (by omega)) ?_
      simp (maxSteps:=999999) (disch:=first|exact {}|omega|simp) [zS]
      refine zC (c135 (nth ps k) (dirR (pminus (nxt ps k) (nth ps k))) hp (by omega) (by omega) (by omega) (by omega)) ?_
      rw [thru_eq g1]
      simp (maxSteps:=999999) (disch:=first|exact {}|omega|simp) [zS,lP,lL]
      refine zC (c68 (sideL (nth ps k) (nxt ps k)) l g3 hl (by omega) (by omega) (sideL_dir _ _).1 (sideL_dir _ _).2 h0 h1 g2) ?_
      simp (maxSteps:=999999) (disch:=first|exact {}|omega|simp) [zS,lP,lL,mem_encPs,most,big1,big2,big3,big4]
      have hcut:cutN l s ps (k + 1) = cutN l s ps k ++ cutF l s (nth ps k) (nxt ps k):=rfl
      simp only [cutF,hA,hB,h4,h5,hv,if_true,if_false,List.nil_append,List.append_nil,List.append_assoc,List.cons_append] at hcut
      generalize meetP (sideL (nth ps k) (nxt ps k)) l = X at *
      generalize sideL (nth ps k) (nxt ps k) = Y at *
      (refine ⟨⟨(k + 1,.a),by omega,trivial⟩,by (simp; try omega), ?_⟩; constructor <;> (simp (maxSteps:=999999) (disch:=first|exact {}|omega|simp) [zS,hcut,hA,hB,h4,h5,hv,hasN,hh,vaI2,vaH2,encPs,tk,tk2]) <;> (try omega))
     ·(refine ⟨⟨(k + 1,.a),by omega,trivial⟩,by (simp; try omega), ?_⟩; constructor <;> (simp (maxSteps:=999999) (disch:=first|exact {}|omega|simp) [zS,cutN,cutF,hA,hB,h4,h5,h40,hv,hasN,hh,vaI2,vaH2,encPs,tk,tk2]) <;> (try omega))
   ·(first | refine Gd.dec (fun h4=>?_) (fun h4=>?_) | refine Gd.intro (fun h4=>?_) (fun h4=>?_)) <;> simp (maxSteps:=999999) (disch:=first|exact {}|omega|simp) [zS,h4]
    ·simp (maxSteps:=999999) (disch:=first|exact {}|omega|simp) [zS,h4,w3,lP,lL,mem_encPs,most,big1,big2,hh]
     (first | refine Gd.dec (fun h5=>?_) (fun h5=>?_) | refine Gd.intro (fun h5=>?_) (fun h5=>?_)) <;> simp (maxSteps:=999999) (disch:=first|exact {}|omega|simp) [zS,h5]
     ·obtain ⟨g1,g2,g3⟩:=gk h5
      refine zC (c126 (nxt ps k) (nth ps k) hq hp (by omega) (by omega)) ?_
      simp (maxSteps:=999999) (disch:=first|exact {}|omega|simp) [zS]
      refine zC (c125 _ (hq.minus hp) (by omega) (by omega)) ?_
      simp (maxSteps:=999999) (disch:=first|exact {}|omega|simp) [zS]
      refine zC (c135 (nth ps k) (dirR (pminus (nxt ps k) (nth ps k))) hp (by omega) (by omega) (by omega) (by omega)) ?_
      rw [thru_eq g1]
      simp (maxSteps:=999999) (disch:=first|exact {}|omega|simp) [zS,lP,lL]
      refine zC (c68 (sideL (nth ps k) (nxt ps k)) l g3 hl (by omega) (by omega) (sideL_dir _ _).1 (sideL_dir _ _).2 h0 h1 g2) ?_
      simp (maxSteps:=999999) (disch:=first|exact {}|omega|simp) [zS,lP,lL,mem_encPs,most,big1,big2,big3,big4]
      have hcut:cutN l s ps (k + 1) = cutN l s ps k ++ cutF l s (nth ps k) (nxt ps k):=rfl
      simp only [cutF,hA,hB,h4,h5,hv,if_true,if_false,List.nil_append,List.append_nil,List.append_assoc,List.cons_append] at hcut
      generalize meetP (sideL (nth ps k) (nxt ps k)) l = X at *
      generalize sideL (nth ps k) (nxt ps k) = Y at *
      (refine ⟨⟨(k + 1,.a),by omega,trivial⟩,by (simp; try omega), ?_⟩; constructor <;> (simp (maxSteps:=999999) (disch:=first|exact {}|omega|simp) [zS,hcut,hA,hB,h4,h5,hv,hasN,hh,vaI2,vaH2,encPs,tk,tk2]) <;> (try omega))
     ·(refine ⟨⟨(k + 1,.a),by omega,trivial⟩,by (simp; try omega), ?_⟩; constructor <;> (simp (maxSteps:=999999) (disch:=first|exact {}|omega|simp) [zS,cutN,cutF,hA,hB,h4,h5,hv,hasN,hh,vaI2,vaH2,encPs,tk,tk2]) <;> (try omega))
    ·have h40:¬ 0 < A:=by omega
     simp (maxSteps:=999999) (disch:=first|exact {}|omega|simp) [zS,h4,w3,lP,lL,hh]
     (first | refine Gd.dec (fun h5=>?_) (fun h5=>?_) | refine Gd.intro (fun h5=>?_) (fun h5=>?_)) <;> simp (maxSteps:=999999) (disch:=first|exact {}|omega|simp) [zS,h5]
     ·obtain ⟨g1,g2,g3⟩:=gk h5
      refine zC (c126 (nxt ps k) (nth ps k) hq hp (by omega) (by omega)) ?_
      simp (maxSteps:=999999) (disch:=first|exact {}|omega|simp) [zS]
      refine zC (c125 _ (hq.minus hp) (by omega) (by omega)) ?_
      simp (maxSteps:=999999) (disch:=first|exact {}|omega|simp) [zS]
      refine zC (c135 (nth ps k) (dirR (pminus (nxt ps k) (nth ps k))) hp (by omega) (by omega) (by omega) (by omega)) ?_
      rw [thru_eq g1]
      simp (maxSteps:=999999) (disch:=first|exact {}|omega|simp) [zS,lP,lL]
      refine zC (c68 (sideL (nth ps k) (nxt ps k)) l g3 hl (by omega) (by omega) (sideL_dir _ _).1 (sideL_dir _ _).2 h0 h1 g2) ?_
      simp (maxSteps:=999999) (disch:=first|exact {}|omega|simp) [zS,lP,lL,mem_encPs,most,big1,big2,big3,big4]
      have hcut:cutN l s ps (k + 1) = cutN l s ps k ++ cutF l s (nth ps k) (nxt ps k):=rfl
      simp only [cutF,hA,hB,h4,h5,hv,if_true,if_false,List.nil_append,List.append_nil,List.append_assoc,List.cons_append] at hcut
      generalize meetP (sideL (nth ps k) (nxt ps k)) l = X at *
      generalize sideL (nth ps k) (nxt ps k) = Y at *
      (refine ⟨⟨(k + 1,.a),by omega,trivial⟩,by (simp; try omega), ?_⟩; constructor <;> (simp (maxSteps:=999999) (disch:=first|exact {}|omega|simp) [zS,hcut,hA,hB,h4,h5,hv,hasN,hh,vaI2,vaH2,encPs,tk,tk2]) <;> (try omega))
     ·(refine ⟨⟨(k + 1,.a),by omega,trivial⟩,by (simp; try omega), ?_⟩; constructor <;> (simp (maxSteps:=999999) (disch:=first|exact {}|omega|simp) [zS,cutN,cutF,hA,hB,h4,h5,h40,hv,hasN,hh,vaI2,vaH2,encPs,tk,tk2]) <;> (try omega))
  | b =>
   simp only [vaOk] at hv
   simp (maxSteps:=999999) (disch:=first|exact {}|omega|simp) [zS,hlt,encPs_get hlt,vaI2,vaH2,hne,rm,hm0,hm1,hmod,eq2,lP,lL]
   refine zC (c1) ?_
   simp (maxSteps:=999999) (disch:=first|exact {}|omega|simp) [zS,hlt,encPs_get hlt,vaI2,vaH2,hne,rm,hm0,hm1,hmod,eq2,lP,lL,w1,hA]
   refine zC (c2) ?_
   simp (maxSteps:=999999) (disch:=first|exact {}|omega|simp) [zS,hlt,encPs_get hlt,vaI2,vaH2,hne,rm,hm0,hm1,hmod,eq2,lP,lL,w2,hA,hB]
   cases hh:hasN l s ps k
   ·(first | refine Gd.dec (fun h4=>?_) (fun h4=>?_) | refine Gd.intro (fun h4=>?_) (fun h4=>?_)) <;> simp (maxSteps:=999999) (disch:=first|exact {}|omega|simp) [zS,h4]
    ·simp (maxSteps:=999999) (disch:=first|exact {}|omega|simp) [zS,h4,w3,lP,lL,mem_encPs,most,big1,big2,hh]
     (first | refine Gd.dec (fun h5=>?_) (fun h5=>?_) | refine Gd.intro (fun h5=>?_) (fun h5=>?_)) <;> simp (maxSteps:=999999) (disch:=first|exact {}|omega|simp) [zS,h5]
     ·obtain ⟨g1,g2,g3⟩:=gk h5
      refine zC (c126 (nxt ps k) (nth ps k) hq hp (by omega) (by omega)) ?_
      simp (maxSteps:=999999) (disch:=first|exact {}|omega|simp) [zS]
      refine zC (c125 _ (hq.minus hp) (by omega) (by omega)) ?_
      simp (maxSteps:=999999) (disch:=first|exact {}|omega|simp) [zS]
      refine zC (c135 (nth ps k) (dirR (pminus (nxt ps k) (nth ps k))) hp (by omega) (by omega) (by omega) (by omega)) ?_
      rw [thru_eq g1]
      simp (maxSteps:=999999) (disch:=first|exact {}|omega|simp) [zS,lP,lL]
      refine zC (c68 (sideL (nth ps k) (nxt ps k)) l g3 hl (by omega) (by omega) (sideL_dir _ _).1 (sideL_dir _ _).2 h0 h1 g2) ?_
      simp (maxSteps:=999999) (disch:=first|exact {}|omega|simp) [zS,lP,lL,mem_encPs,most,big1,big2,big3,big4]
      have hcut:cutN l s ps (k + 1) = cutN l s ps k ++ cutF l s (nth ps k) (nxt ps k):=rfl
      simp only [cutF,hA,hB,h4,h5,hv,if_true,if_false,List.nil_append,List.append_nil,List.append_assoc,List.cons_append] at hcut
      generalize meetP (sideL (nth ps k) (nxt ps k)) l = X at *
      generalize sideL (nth ps k) (nxt ps k) = Y at *
      (refine ⟨⟨(k + 1,.b),by omega,trivial⟩,by (simp; try omega), ?_⟩; constructor <;> (simp (maxSteps:=999999) (disch:=first|exact {}|omega|simp) [zS,hcut,hA,hB,h4,h5,hv,hasN,hh,vaI2,vaH2,encPs,tk,tk2]) <;> (try omega))
     ·(refine ⟨⟨(k + 1,.b),by omega,trivial⟩,by (simp; try omega), ?_⟩; constructor <;> (simp (maxSteps:=999999) (disch:=first|exact {}|omega|simp) [zS,cutN,cutF,hA,hB,h4,h5,hv,hasN,hh,vaI2,vaH2,encPs,tk,tk2]) <;> (try omega))
    ·have h40:¬ 0 < A:=by omega
     simp (maxSteps:=999999) (disch:=first|exact {}|omega|simp) [zS,h4,w3,lP,lL,hh]
     (first | refine Gd.dec (fun h5=>?_) (fun h5=>?_) | refine Gd.intro (fun h5=>?_) (fun h5=>?_)) <;> simp (maxSteps:=999999) (disch:=first|exact {}|omega|simp) [zS,h5]
     ·obtain ⟨g1,g2,g3⟩:=gk h5
      refine zC (c126 (nxt ps k) (nth ps k) hq hp (by omega) (by omega)) ?_
      simp (maxSteps:=999999) (disch:=first|exact {}|omega|simp) [zS]
      refine zC (c125 _ (hq.minus hp) (by omega) (by omega)) ?_
      simp (maxSteps:=999999) (disch:=first|exact {}|omega|simp) [zS]
      refine zC (c135 (nth ps k) (dirR (pminus (nxt ps k) (nth ps k))) hp (by omega) (by omega) (by omega) (by omega)) ?_
      rw [thru_eq g1]
      simp (maxSteps:=999999) (disch:=first|exact {}|omega|simp) [zS,lP,lL]
      refine zC (c68 (sideL (nth ps k) (nxt ps k)) l g3 hl (by omega) (by omega) (sideL_dir _ _).1 (sideL_dir _ _).2 h0 h1 g2) ?_
      simp (maxSteps:=999999) (disch:=first|exact {}|omega|simp) [zS,lP,lL,mem_encPs,most,big1,big2,big3,big4]
      have hcut:cutN l s ps (k + 1) = cutN l s ps k ++ cutF l s (nth ps k) (nxt ps k):=rfl
      simp only [cutF,hA,hB,h4,h5,hv,if_true,if_false,List.nil_append,List.append_nil,List.append_assoc,List.cons_append] at hcut
      generalize meetP (sideL (nth ps k) (nxt ps k)) l = X at *
      generalize sideL (nth ps k) (nxt ps k) = Y at *
      (refine ⟨⟨(k + 1,.b),by omega,trivial⟩,by (simp; try omega), ?_⟩; constructor <;> (simp (maxSteps:=999999) (disch:=first|exact {}|omega|simp) [zS,hcut,hA,hB,h4,h5,hv,hasN,hh,vaI2,vaH2,encPs,tk,tk2]) <;> (try omega))
     ·(refine ⟨⟨(k + 1,.b),by omega,trivial⟩,by (simp; try omega), ?_⟩; constructor <;> (simp (maxSteps:=999999) (disch:=first|exact {}|omega|simp) [zS,cutN,cutF,hA,hB,h4,h5,h40,hv,hasN,hh,vaI2,vaH2,encPs,tk,tk2]) <;> (try omega))
   ·(first | refine Gd.dec (fun h4=>?_) (fun h4=>?_) | refine Gd.intro (fun h4=>?_) (fun h4=>?_)) <;> simp (maxSteps:=999999) (disch:=first|exact {}|omega|simp) [zS,h4]
    ·simp (maxSteps:=999999) (disch:=first|exact {}|omega|simp) [zS,h4,w3,lP,lL,mem_encPs,most,big1,big2,hh]
     (first | refine Gd.dec (fun h5=>?_) (fun h5=>?_) | refine Gd.intro (fun h5=>?_) (fun h5=>?_)) <;> simp (maxSteps:=999999) (disch:=first|exact {}|omega|simp) [zS,h5]
     ·obtain ⟨g1,g2,g3⟩:=gk h5
      refine zC (c126 (nxt ps k) (nth ps k) hq hp (by omega) (by omega)) ?_
      simp (maxSteps:=999999) (disch:=first|exact {}|omega|simp) [zS]
      refine zC (c125 _ (hq.minus hp) (by omega) (by omega)) ?_
      simp (maxSteps:=999999) (disch:=first|exact {}|omega|simp) [zS]
      refine zC (c135 (nth ps k) (dirR (pminus (nxt ps k) (nth ps k))) hp (by omega) (by omega) (by omega) (by omega)) ?_
      rw [thru_eq g1]
      simp (maxSteps:=999999) (disch:=first|exact {}|omega|simp) [zS,lP,lL]
      refine zC (c68 (sideL (nth ps k) (nxt ps k)) l g3 hl (by omega) (by omega) (sideL_dir _ _).1 (sideL_dir _ _).2 h0 h1 g2) ?_
      simp (maxSteps:=999999) (disch:=first|exact {}|omega|simp) [zS,lP,lL,mem_encPs,most,big1,big2,big3,big4]
      have hcut:cutN l s ps (k + 1) = cutN l s ps k ++ cutF l s (nth ps k) (nxt ps k):=rfl
      simp only [cutF,hA,hB,h4,h5,hv,if_true,if_false,List.nil_append,List.append_nil,List.append_assoc,List.cons_append] at hcut
      generalize meetP (sideL (nth ps k) (nxt ps k)) l = X at *
      generalize sideL (nth ps k) (nxt ps k) = Y at *
      (refine ⟨⟨(k + 1,.b),by omega,trivial⟩,by (simp; try omega), ?_⟩; constructor <;> (simp (maxSteps:=999999) (disch:=first|exact {}|omega|simp) [zS,hcut,hA,hB,h4,h5,hv,hasN,hh,vaI2,vaH2,encPs,tk,tk2]) <;> (try omega))
     ·(refine ⟨⟨(k + 1,.b),by omega,trivial⟩,by (simp; try omega), ?_⟩; constructor <;> (simp (maxSteps:=999999) (disch:=first|exact {}|omega|simp) [zS,cutN,cutF,hA,hB,h4,h5,hv,hasN,hh,vaI2,vaH2,encPs,tk,tk2]) <;> (try omega))
    ·have h40:¬ 0 < A:=by omega
     simp (maxSteps:=999999) (disch:=first|exact {}|omega|simp) [zS,h4,w3,lP,lL,hh]
     (first | refine Gd.dec (fun h5=>?_) (fun h5=>?_) | refine Gd.intro (fun h5=>?_) (fun h5=>?_)) <;> simp (maxSteps:=999999) (disch:=first|exact {}|omega|simp) [zS,h5]
     ·obtain ⟨g1,g2,g3⟩:=gk h5
      refine zC (c126 (nxt ps k) (nth ps k) hq hp (by omega) (by omega)) ?_
      simp (maxSteps:=999999) (disch:=first|exact {}|omega|simp) [zS]
      refine zC (c125 _ (hq.minus hp) (by omega) (by omega)) ?_
      simp (maxSteps:=999999) (disch:=first|exact {}|omega|simp) [zS]
      refine zC (c135 (nth ps k) (dirR (pminus (nxt ps k) (nth ps k))) hp (by omega) (by omega) (by omega) (by omega)) ?_
      rw [thru_eq g1]
      simp (maxSteps:=999999) (disch:=first|exact {}|omega|simp) [zS,lP,lL]
      refine zC (c68 (sideL (nth ps k) (nxt ps k)) l g3 hl (by omega) (by omega) (sideL_dir _ _).1 (sideL_dir _ _).2 h0 h1 g2) ?_
      simp (maxSteps:=999999) (disch:=first|exact {}|omega|simp) [zS,lP,lL,mem_encPs,most,big1,big2,big3,big4]
      have hcut:cutN l s ps (k + 1) = cutN l s ps k ++ cutF l s (nth ps k) (nxt ps k):=rfl
      simp only [cutF,hA,hB,h4,h5,hv,if_true,if_false,List.nil_append,List.append_nil,List.append_assoc,List.cons_append] at hcut
      generalize meetP (sideL (nth ps k) (nxt ps k)) l = X at *
      generalize sideL (nth ps k) (nxt ps k) = Y at *
      (refine ⟨⟨(k + 1,.b),by omega,trivial⟩,by (simp; try omega), ?_⟩; constructor <;> (simp (maxSteps:=999999) (disch:=first|exact {}|omega|simp) [zS,hcut,hA,hB,h4,h5,hv,hasN,hh,vaI2,vaH2,encPs,tk,tk2]) <;> (try omega))
     ·(refine ⟨⟨(k + 1,.b),by omega,trivial⟩,by (simp; try omega), ?_⟩; constructor <;> (simp (maxSteps:=999999) (disch:=first|exact {}|omega|simp) [zS,cutN,cutF,hA,hB,h4,h5,h40,hv,hasN,hh,vaI2,vaH2,encPs,tk,tk2]) <;> (try omega))
 ·obtain rfl:k = ps.length:=by omega
  have htk:List.take (cutN l s ps ps.length).length (encPs (cutN l s ps ps.length)) = encPs (cutN l s ps ps.length):=List.take_of_length_le (by simp)
  cases v with
  | n =>
   simp only [vaOk] at hv
   cases hh:hasN l s ps ps.length
   ·simp (maxSteps:=999999) (disch:=first|exact {}|omega|simp) [zS,vaI2,vaH2,hh,halfR,encPs]
   ·simp (maxSteps:=999999) (disch:=first|exact {}|omega|simp) [zS,vaI2,vaH2,hh,halfR,hv,encPs]
  | a =>
   cases hh:hasN l s ps ps.length
   ·simp (maxSteps:=999999) (disch:=first|exact {}|omega|simp) [zS,vaI2,vaH2,hh,halfR,encPs]
   ·simp (maxSteps:=999999) (disch:=first|exact {}|omega|simp) [zS,vaI2,vaH2,hh,halfR,htk]
  | b =>
   cases hh:hasN l s ps ps.length
   ·simp (maxSteps:=999999) (disch:=first|exact {}|omega|simp) [zS,vaI2,vaH2,hh,halfR,encPs]
   ·simp (maxSteps:=999999) (disch:=first|exact {}|omega|simp) [zS,vaI2,vaH2,hh,halfR,htk]
end Go.Vai
namespace Go.Vai
theorem c245 (l:List Pt) (hl:(l.length:Int) ≤ 1048576):PC E 245 [.i (.sl (encPs l))] [.own 6 (encPs l)]:=by
 refine zP hE Proofs.Tryz.func245 Proofs.Tryz.ntmps245 rfl rfl ?_
 simp (maxSteps:=999999) (disch:=first|exact {}|omega|simp) [zS]
 refine XL.by hE (ι:={ k:Nat // k ≤ l.length }) (fun k=>⟨[(0,.i (.sl (encPs l))),(3,if k.1 = 0 then .esl else .own 19 0 k.1),(4,.i (.int .i64 k.1))],if k.1 = 0 then [] else [(19,⟨6,encPs (l.take k.1)⟩)]⟩)
  (fun k=>l.length - k.1) ⟨0,Nat.zero_le _⟩ ⟨by simp,by simp,by simp⟩ (by kernel_rfl) ?_
 rintro ⟨k,hk⟩
 have hln:(l.take k).length = k:=by simp; omega
 by_cases hlt:k < l.length
 ·have lP:∀ p:Pt,(encP p).length = 6:=fun _=>rfl
  have hst:encPs (l.take (k + 1)) = encPs (l.take k) ++ [encP (nth l k)]:=by
   rw [List.take_succ_eq_append_getElem hlt,encPs_append,nth_eq hlt]; rfl
  have htk:List.take k (encPs (l.take k)) = encPs (l.take k):=List.take_of_length_le (by simp; omega)
  by_cases h0:k = 0
  ·subst h0
   simp (maxSteps:=999999) (disch:=first|exact {}|omega|simp) [zS,hlt,encPs_get hlt]
   refine zC (c124 (nth l 0)) ?_
   simp (maxSteps:=999999) (disch:=first|exact {}|omega|simp) [zS,lP,most]
   have h10:List.take 1 (List.map encP l) = [encP (nth l 0)]:=by rw [← List.map_take]; simpa [encPs] using hst
   (refine ⟨⟨0 + 1,by omega⟩,by (simp; try omega), ?_⟩; constructor <;> (simp (maxSteps:=999999) (disch:=first|exact {}|omega|simp) [zS,encPs,h10]) <;> (try omega))
  ·simp (maxSteps:=999999) (disch:=first|exact {}|omega|simp) [zS,hlt,encPs_get hlt,h0]
   refine zC (c124 (nth l k)) ?_
   simp (maxSteps:=999999) (disch:=first|exact {}|omega|simp) [zS,lP,most,show (k:Int) + 1 ≤ 140737488355328 by omega,show ((k:Int) + 1) * 48 ≤ 140737488355328 by omega]
   (refine ⟨⟨k + 1,by omega⟩,by (simp; try omega), ?_⟩; constructor <;> (simp (maxSteps:=999999) (disch:=first|exact {}|omega|simp) [zS,hst,htk]) <;> (try omega))
 ·obtain rfl:k = l.length:=by omega
  by_cases h0:l = []
  ·subst h0; simp (maxSteps:=999999) (disch:=first|exact {}|omega|simp) [zS,encPs]
  ·have h0':¬ l.length = 0:=by simpa using h0
   have htk:List.take l.length (encPs l) = encPs l:=List.take_of_length_le (by simp)
   simp (maxSteps:=999999) (disch:=first|exact {}|omega|simp) [zS,h0,h0',htk]
end Go.Vai
namespace Go.Vai
theorem c275 (d:Int):PC E 275 [.i (.int .i64 d)] [.i (.int .i64 (d % 16))]:=by
 refine zP hE Proofs.Tryz.func275 Proofs.Tryz.ntmps275 rfl rfl ?_
 simp (maxSteps:=999999) (disch:=first|exact {}|omega|simp) [zS,andI_15]
def dl (l:List Pt) (k:Nat):Int:=dirR (pminus (nxt l k) (nth l k))
def bef (l:List Pt) (k:Nat):Int:=if k = 0 then dirR (pminus (nth l 0) (nth l (l.length - 1))) else dl l (k - 1)
theorem dl_range (l:List Pt) (k:Nat):-1 ≤ dl l k ∧ dl l k ≤ 15:=dirR_range _
theorem bef_range (l:List Pt) (k:Nat):-1 ≤ bef l k ∧ bef l k ≤ 15:=by unfold bef; split <;> exact dirR_range _
def okI (l:List Pt) (k:Nat):Bool:=decide (0 ≤ dl l k) && decide (0 ≤ bef l k) && inB ((dl l k - bef l k) % 16) 1 7
def sumI (l:List Pt):Nat → Int
 | 0=>0
 | k + 1=>sumI l k + (dl l k - bef l k) % 16
theorem sumI_range (l:List Pt):∀ k,0 ≤ sumI l k ∧ sumI l k ≤ 15 * k
 | 0=>by simp [sumI]
 | k + 1=>by have:=sumI_range l k; simp only [sumI]; omega
def convI (l:List Pt):Bool:=decide (3 ≤ l.length) && (List.range l.length).all (okI l) && decide (sumI l l.length = 16)
theorem stepAll {f:Nat → Bool} {k:Nat} (h:∀ j,j < k → f j = true) (hk:f k = true):∀ j,j < k + 1 → f j = true:=fun j hj=>by
 rcases Nat.lt_succ_iff_lt_or_eq.1 hj with h' | rfl
 ·exact h j h'
 ·exact hk
theorem convI_no {l:List Pt} {k:Nat} (hk:k < l.length) (h:okI l k = false):convI l = false:=by
 have:(List.range l.length).all (okI l) = false:=by
  rw [← Bool.not_eq_true]; intro hr
  simp only [List.all_eq_true,List.mem_range] at hr
  rw [hr k hk] at h; simp at h
 simp [convI,this]
theorem convI_yes {l:List Pt} (h3:3 ≤ l.length) (h:∀ j,j < l.length → okI l j = true):convI l = decide (sumI l l.length = 16):=by
 have:(List.range l.length).all (okI l) = true:=by simp only [List.all_eq_true,List.mem_range]; exact h
 simp [convI,this,h3]
theorem c230 (l:List Pt) {K M:Nat} (h:∀ p ∈ l,PB K M p) (hK:K ≤ 60) (hM:12 * M ≤ 4611686018427387904) (hl:(l.length:Int) ≤ 1048576):PC E 230 [.i (.sl (encPs l))] [.i (.bool (convI l))]:=by
 refine zP hE Proofs.Tryz.func230 Proofs.Tryz.ntmps230 rfl rfl ?_
 simp (maxSteps:=999999) (disch:=first|exact {}|omega|simp) [zS]
 (first | refine Gd.dec (fun h3=>?_) (fun h3=>?_) | refine Gd.intro (fun h3=>?_) (fun h3=>?_)) <;> simp (maxSteps:=999999) (disch:=first|exact {}|omega|simp) [zS,h3]
 ·have:convI l = false:=by simp [convI]; omega
  rw [this]
 have hlp:0 < l.length:=by omega
 have hlm:l.length - 1 < l.length:=by omega
 have ei:((l.length:Int) - 1).toNat = l.length - 1:=by omega
 have en:¬ ((l.length:Int) - 1 < 0):=by omega
 simp (maxSteps:=999999) (disch:=first|exact {}|omega|simp) [zS,encPs_get hlm,encPs_get hlp,hlp,hlm,ei,en]
 refine zC (c141 (nth l (l.length - 1)) (nth l 0) (h _ (nth_mem hlp)) (h _ (nth_mem hlm)) hK (by omega)) ?_
 simp (maxSteps:=999999) (disch:=first|exact {}|omega|simp) [zS]
 refine XL.by hE (ι:={ k:Nat // k ≤ l.length ∧ ∀ j,j < k → okI l j = true }) (fun k=>⟨[(0,.i (.sl (encPs l))),(3,.i (.int .i64 l.length)),(4,.i (.int .i64 (sumI l k.1))),(5,.i (.int .i64 (bef l k.1))),(23,.i (.sl (encPs l))),(24,.i (.int .i64 l.length)),(25,.i (.int .i64 k.1))],[]⟩)
  (fun k=>l.length - k.1) ⟨0,Nat.zero_le _,by simp⟩ ⟨by simp [sumI,bef],by simp,by simp⟩ (by kernel_rfl) ?_
 rintro ⟨k,hk,hr⟩
 have hs:=sumI_range l k
 by_cases hlt:k < l.length
 ·have hmod:(k + 1) % l.length < l.length:=Nat.mod_lt _ (by omega)
  have eq2:(encPs l)[(k + 1) % l.length]? = some (encP (nxt l k)):=encPs_get hmod
  have hne:¬ l = []:=by rintro rfl; simp at hlt
  have rm:((k:Int) + 1).tmod (l.length:Int) = (((k + 1) % l.length:Nat):Int):=by
   rw [Int.tmod_eq_emod_of_nonneg (by omega)]; simp
  have hm0:¬ (((k:Int) + 1) % (l.length:Int) < 0):=by have:=Int.emod_nonneg ((k:Int) + 1) (b:=(l.length:Int)) (by omega); omega
  have hm1:(((k:Int) + 1) % (l.length:Int)).toNat = (k + 1) % l.length:=by
   have:((k:Int) + 1) % (l.length:Int) = (((k + 1) % l.length:Nat):Int):=by simp
   rw [this]; rfl
  have hdl:=dl_range l k
  have hbf:=bef_range l k
  have hd:PC E 141 [.agg (encP (nth l k)),.agg (encP (nxt l k))] [.i (.int .i64 (dl l k))]:=c141 (nth l k) (nxt l k) (h _ (nth_mem hmod)) (h _ (nth_mem hlt)) hK (by omega)
  have hb1:bef l (k + 1) = dl l k:=by simp [bef]
  have hs1:sumI l (k + 1) = sumI l k + (dl l k - bef l k) % 16:=rfl
  have hok:okI l k = (decide (0 ≤ dl l k) && decide (0 ≤ bef l k) && inB ((dl l k - bef l k) % 16) 1 7):=rfl
  simp (maxSteps:=999999) (disch:=first|exact {}|omega|simp) [zS,hlt,encPs_get hlt,hne,rm,hm0,hm1,hmod,eq2]
  refine zC (hd) ?_
  simp (maxSteps:=999999) (disch:=first|exact {}|omega|simp) [zS]
  refine zC (c275 (dl l k - bef l k)) ?_
  simp (maxSteps:=999999) (disch:=first|exact {}|omega|simp) [zS]
  (first | refine Gd.dec (fun h4=>?_) (fun h4=>?_) | refine Gd.intro (fun h4=>?_) (fun h4=>?_)) <;> simp (maxSteps:=999999) (disch:=first|exact {}|omega|simp) [zS,h4]
  ·rw [convI_no hlt (by rw [hok]; simp; omega)]
  ·(first | refine Gd.dec (fun h5=>?_) (fun h5=>?_) | refine Gd.intro (fun h5=>?_) (fun h5=>?_)) <;> simp (maxSteps:=999999) (disch:=first|exact {}|omega|simp) [zS,h5]
   ·rw [convI_no hlt (by rw [hok]; simp; omega)]
   ·refine zC (c109 _ _ _) ?_
    simp (maxSteps:=999999) (disch:=first|exact {}|omega|simp) [zS]
    (first | refine Gd.dec (fun h6=>?_) (fun h6=>?_) | refine Gd.intro (fun h6=>?_) (fun h6=>?_)) <;> simp (maxSteps:=999999) (disch:=first|exact {}|omega|simp) [zS,h6]
    ·(refine ⟨⟨k + 1,by omega,stepAll hr (by rw [hok,h6]; simp; omega)⟩,by (simp; try omega), ?_⟩; constructor <;> (simp (maxSteps:=999999) (disch:=first|exact {}|omega|simp) [zS,hs1,hb1]) <;> (try omega))
    ·rw [convI_no hlt (by rw [hok,h6]; simp)]
 ·obtain rfl:k = l.length:=by omega
  simp (maxSteps:=999999) (disch:=first|exact {}|omega|simp) [zS,convI_yes (by omega) hr]
end Go.Vai
namespace Go.Vai
namespace Pq
def fidx {α:Type} (p:α → Bool) (xs:List α):Int:=match xs.findIdx? p with
 | some i=>i
 | none=>-1
theorem fidx_at {α:Type} {p:α → Bool} {xs:List α} {k:Nat} (hk:k < xs.length) (hno:∀ (j:Nat) (hj:j < xs.length),j < k → p xs[j] = false) (h:p xs[k] = true):fidx p xs = k:=by
 have:xs.findIdx? p = some k:=by
  rw [List.findIdx?_eq_some_iff_getElem]
  exact ⟨hk,h,fun j hj=>by simpa using hno j (by omega) hj⟩
 simp [fidx,this]
theorem fidx_none {α:Type} {p:α → Bool} {xs:List α} (hno:∀ (j:Nat) (hj:j < xs.length),p xs[j] = false):fidx p xs = -1:=by
 have:xs.findIdx? p = none:=by
  rw [List.findIdx?_eq_none_iff]
  intro x hx
  obtain ⟨j,hj,rfl⟩:=List.getElem_of_mem hx
  exact hno j hj
 simp [fidx,this]
theorem step_no {α:Type} {p:α → Bool} {xs:List α} {k:Nat} (hno:∀ (j:Nat) (hj:j < xs.length),j < k → p xs[j] = false) (hk:k < xs.length) (h:p xs[k] = false) :
  ∀ (j:Nat) (hj:j < xs.length),j < k + 1 → p xs[j] = false:=fun j hj hjk=>by
 rcases Nat.lt_succ_iff_lt_or_eq.1 hjk with hj' | rfl
 ·exact hno j hj hj'
 ·exact h
theorem fidx_any {α:Type} {p:α → Bool} {xs:List α}:decide (0 ≤ fidx p xs) = xs.any p:=by
 unfold fidx
 cases h:xs.findIdx? p with
 | none =>
  rw [List.findIdx?_eq_none_iff] at h
  simp
  intro x hx; exact h x hx
 | some i =>
  rw [List.findIdx?_eq_some_iff_getElem] at h
  obtain ⟨hi,hp,-⟩:=h
  simp
  exact ⟨xs[i],List.getElem_mem _,hp⟩
@[simp] theorem immL_caps (H:List (Nat × Obj)):∀ caps:List IV,immL H (caps.map .i) = some (caps.map .i)
 | []=>rfl
 | x :: l=>by simp [immL_caps H l]
theorem c215 (xs:List Pt) (g:FuncId) (caps:List IV) (p:Pt → Bool) (hp:∀ x ∈ xs,PC E g (.agg (encP x) :: caps.map .i) [.i (.bool (p x))]) (h:(xs.length:Int) ≤ 1048576) :
  PC E 215 [.i (.sl (xs.map encP)),.i (.fn g caps)] [.i (.int .i64 (fidx p xs))]:=by
 refine zP hE Proofs.Tryz.func215 Proofs.Tryz.ntmps215 rfl rfl ?_
 simp (maxSteps:=999999) (disch:=first|exact {}|omega|simp) [zS]
 refine XL.by hE (ι:={ k:Nat // k ≤ xs.length ∧ ∀ (j:Nat) (hj:j < xs.length),j < k → p xs[j] = false }) (fun k=>⟨[(0,.i (.sl (xs.map encP))),(1,.i (.fn g caps)),(7,.i (.int .i64 xs.length)),(8,.i (.int .i64 k.1))],[]⟩)
  (fun k=>xs.length - k.1) ⟨0,Nat.zero_le _,by simp⟩ ⟨by simp,by simp,by simp⟩ (by kernel_rfl) ?_
 rintro ⟨k,hk,hno⟩
 by_cases hlt:k < xs.length
 ·simp (maxSteps:=999999) (disch:=first|exact {}|omega|simp) [zS,hlt]
  refine zC (hp xs[k] (List.getElem_mem _)) ?_
  simp (maxSteps:=999999) (disch:=first|exact {}|omega|simp) [zS,hlt]
  (first | refine Gd.dec (fun h4=>?_) (fun h4=>?_) | refine Gd.intro (fun h4=>?_) (fun h4=>?_)) <;> simp (maxSteps:=999999) (disch:=first|exact {}|omega|simp) [zS,h4]
  ·simp [fidx_at hlt hno h4]
  ·(refine ⟨⟨k + 1,by omega,step_no hno hlt h4⟩,by (simp; try omega), ?_⟩; constructor <;> (simp (maxSteps:=999999) (disch:=first|exact {}|omega|simp) [zS]) <;> (try omega))
 ·obtain rfl:k = xs.length:=by omega
  simp (maxSteps:=999999) (disch:=first|exact {}|omega|simp) [zS,fidx_none fun j hj=>hno j hj hj]
theorem c146 (xs:List Pt) (g:FuncId) (caps:List IV) (p:Pt → Bool) (hp:∀ x ∈ xs,PC E g (.agg (encP x) :: caps.map .i) [.i (.bool (p x))]) (h:(xs.length:Int) ≤ 1048576) :
  PC E 146 [.i (.sl (xs.map encP)),.i (.fn g caps)] [.i (.bool (xs.any p))]:=by
 refine zP hE Proofs.Tryz.func146 Proofs.Tryz.ntmps146 rfl rfl ?_
 simp (maxSteps:=999999) (disch:=first|exact {}|omega|simp) [zS]
 refine zC (c215 xs g caps p hp h) ?_
 simp (maxSteps:=999999) (disch:=first|exact {}|omega|simp) [zS,fidx_any]
end Pq
open Pq
theorem c147 (p:Pt):PC E 147 [.agg (encP p)] [.i (.bool (!vP p))]:=by
 refine zP hE Proofs.Tryz.func147 Proofs.Tryz.ntmps147 rfl rfl ?_
 simp (maxSteps:=999999) (disch:=first|exact {}|omega|simp) [zS]
 refine zC (c148 p) ?_
 simp (maxSteps:=999999) (disch:=first|exact {}|omega|simp) [zS]
theorem c76 (l:List Pt) (h:(l.length:Int) ≤ 1048576):PC E 76 [.i (.sl (encPs l))] [.i (.bool (l.all vP))]:=by
 refine zP hE Proofs.Tryz.func76 Proofs.Tryz.ntmps76 rfl rfl ?_
 simp (maxSteps:=999999) (disch:=first|exact {}|omega|simp) [zS]
 refine zC (c146 l 147 [] (fun p=>!vP p) (fun p _=>c147 p) h) ?_
 simp (maxSteps:=999999) (disch:=first|exact {}|omega|simp) [zS,List.not_any_eq_all_not]
theorem c110 (l:List Pt):PC E 110 [.i (.sl (encPs l))] [.i (.int .i64 l.length)]:=by
 refine zP hE Proofs.Tryz.func110 Proofs.Tryz.ntmps110 rfl rfl ?_
 simp (maxSteps:=999999) (disch:=first|exact {}|omega|simp) [zS]
def polI (l:List Pt):Bool:=inB l.length 3 16 && l.all vP && convI l && decide (least l = 0)
theorem allV {l:List Pt} (h:l.all vP = true):∀ p ∈ l,PB 10 134217728 p:=fun p hp=>vP_bound (List.all_eq_true.1 h p hp)
theorem c253 (l:List Pt) (h:(l.length:Int) ≤ 1048576):PC E 253 [.i (.sl (encPs l))] [.i (.bool (polI l))]:=by
 refine zP hE Proofs.Tryz.func253 Proofs.Tryz.ntmps253 rfl rfl ?_
 simp (maxSteps:=999999) (disch:=first|exact {}|omega|simp) [zS]
 refine zC (c110 l) ?_
 simp (maxSteps:=999999) (disch:=first|exact {}|omega|simp) [zS]
 refine zC (c109 _ _ _) ?_
 simp (maxSteps:=999999) (disch:=first|exact {}|omega|simp) [zS]
 (first | refine Gd.dec (fun h1=>?_) (fun h1=>?_) | refine Gd.intro (fun h1=>?_) (fun h1=>?_)) <;> simp (maxSteps:=999999) (disch:=first|exact {}|omega|simp) [zS,h1]
 rotate_left
 ·simp [polI,h1]
 refine zC (c76 l h) ?_
 simp (maxSteps:=999999) (disch:=first|exact {}|omega|simp) [zS]
 (first | refine Gd.dec (fun h2=>?_) (fun h2=>?_) | refine Gd.intro (fun h2=>?_) (fun h2=>?_)) <;> simp (maxSteps:=999999) (disch:=first|exact {}|omega|simp) [zS,h2]
 rotate_left
 ·rw [show polI l = false by unfold polI; rw [h2]; simp]
 refine zC (c230 l (allV h2) (by decide) (by decide) h) ?_
 simp (maxSteps:=999999) (disch:=first|exact {}|omega|simp) [zS]
 (first | refine Gd.dec (fun h3=>?_) (fun h3=>?_) | refine Gd.intro (fun h3=>?_) (fun h3=>?_)) <;> simp (maxSteps:=999999) (disch:=first|exact {}|omega|simp) [zS,h3]
 rotate_left
 ·rw [show polI l = false by unfold polI; rw [h3]; simp]
 refine zC (c273 l (allV h2) (by decide) (by decide) (by omega)) ?_
 simp (maxSteps:=999999) (disch:=first|exact {}|omega|simp) [zS]
 unfold polI; rw [h1,h2,h3]; simp
end Go.Vai
namespace Go.Vai
theorem c207 (x y:Nu) {K M M':Nat} (h:NB K M x) (h':NB K M' y) (hK:K ≤ 60) (hM:M + M' ≤ 4611686018427387904):PC E 207 [.agg (encN x),.agg (encN y)] [.i (.int .i64 (ncmp x y))]:=by
 refine zP hE Proofs.Tryz.func207 Proofs.Tryz.ntmps207 rfl rfl ?_
 simp (maxSteps:=999999) (disch:=first|exact {}|omega|simp) [zS]
 refine zC (c123 x) ?_
 simp (maxSteps:=999999) (disch:=first|exact {}|omega|simp) [zS]
 refine zC (c123 y) ?_
 simp (maxSteps:=999999) (disch:=first|exact {}|omega|simp) [zS]
 refine zC (c128 x y h h' hK hM) ?_
 simp (maxSteps:=999999) (disch:=first|exact {}|omega|simp) [zS]
 have hs:=h.sub h'
 refine zC (c127 _ (hs.i64 hM hK) (hs.ne hM).1 (hs.ne hM).2) ?_
 simp (maxSteps:=999999) (disch:=first|exact {}|omega|simp) [zS,ncmp]
theorem c130 (p q:Pt) {K M M':Nat} (h:PB K M p) (h':PB K M' q) (hK:K ≤ 60) (hM:M + M' ≤ 4611686018427387904):PC E 130 [.agg (encP p),.agg (encP q)] [.i (.int .i64 (pcmp p q))]:=by
 refine zP hE Proofs.Tryz.func130 Proofs.Tryz.ntmps130 rfl rfl ?_
 simp (maxSteps:=999999) (disch:=first|exact {}|omega|simp) [zS,encP]
 refine zC (c207 p.x q.x h.1 h'.1 hK hM) ?_
 simp (maxSteps:=999999) (disch:=first|exact {}|omega|simp) [zS]
 (first | refine Gd.dec (fun h1=>?_) (fun h1=>?_) | refine Gd.intro (fun h1=>?_) (fun h1=>?_)) <;> simp (maxSteps:=999999) (disch:=first|exact {}|omega|simp) [zS,h1]
 ·refine zC (c207 p.y q.y h.2 h'.2 hK hM) ?_
  simp (maxSteps:=999999) (disch:=first|exact {}|omega|simp) [zS,pcmp,h1]
 ·simp (maxSteps:=999999) (disch:=first|exact {}|omega|simp) [zS,pcmp,h1]
def enc1 (d:Int):List IV:=[.int .i64 d]
def dls (l:List Pt) (k:Nat):List Int:=(List.range k).map (dl l)
theorem dls_succ (l:List Pt) (k:Nat):dls l (k + 1) = dls l k ++ [dl l k]:=by simp [dls,List.range_succ]
@[simp] theorem dls_length (l:List Pt) (k:Nat):(dls l k).length = k:=by simp [dls]
def sidesOk (l:List Pt):Bool:=(List.range l.length).all fun k=>decide (0 ≤ dl l k)
theorem sides_no {l:List Pt} {k:Nat} (hk:k < l.length) (h:dl l k < 0):sidesOk l = false:=by
 rw [← Bool.not_eq_true]; intro hr
 simp only [sidesOk,List.all_eq_true,List.mem_range,decide_eq_true_eq] at hr
 have:=hr k hk; omega
theorem sides_yes {l:List Pt} (h:∀ j,j < l.length → 0 ≤ dl l j):sidesOk l = true:=by
 simp only [sidesOk,List.all_eq_true,List.mem_range,decide_eq_true_eq]; exact h
theorem c244 (l:List Pt) {K M:Nat} (h:∀ p ∈ l,PB K M p) (hK:K ≤ 60) (hM:12 * M ≤ 4611686018427387904) (hl:(l.length:Int) ≤ 1048576) :
  PC E 244 [.i (.sl (encPs l))] [.own 1 (if sidesOk l = true then (dls l l.length).map enc1 else []),.i (.bool (sidesOk l))]:=by
 refine zP hE Proofs.Tryz.func244 Proofs.Tryz.ntmps244 rfl rfl ?_
 simp (maxSteps:=999999) (disch:=first|exact {}|omega|simp) [zS]
 refine XL.by hE (ι:={ k:Nat // k ≤ l.length ∧ ∀ j,j < k → 0 ≤ dl l j }) (fun k=>⟨[(0,.i (.sl (encPs l))),(4,if k.1 = 0 then .esl else .own 33 0 k.1),(5,.i (.int .i64 k.1))],if k.1 = 0 then [] else [(33,⟨1,(dls l k.1).map enc1⟩)]⟩)
  (fun k=>l.length - k.1) ⟨0,Nat.zero_le _,by simp⟩ ⟨by simp,by simp,by simp⟩ (by kernel_rfl) ?_
 rintro ⟨k,hk,hr⟩
 by_cases hlt:k < l.length
 ·have hmod:(k + 1) % l.length < l.length:=Nat.mod_lt _ (by omega)
  have hp:=h _ (nth_mem hlt)
  have hq:PB K M (nxt l k):=h _ (nth_mem hmod)
  have eq2:(encPs l)[(k + 1) % l.length]? = some (encP (nxt l k)):=encPs_get hmod
  have hne:¬ l = []:=by rintro rfl; simp at hlt
  have rm:((k:Int) + 1).tmod (l.length:Int) = (((k + 1) % l.length:Nat):Int):=by
   rw [Int.tmod_eq_emod_of_nonneg (by omega)]; simp
  have hm0:¬ (((k:Int) + 1) % (l.length:Int) < 0):=by have:=Int.emod_nonneg ((k:Int) + 1) (b:=(l.length:Int)) (by omega); omega
  have hm1:(((k:Int) + 1) % (l.length:Int)).toNat = (k + 1) % l.length:=by
   have:((k:Int) + 1) % (l.length:Int) = (((k + 1) % l.length:Nat):Int):=by simp
   rw [this]; rfl
  have hdl:=dl_range l k
  have hd:PC E 125 [.agg (encP (pminus (nxt l k) (nth l k)))] [.i (.int .i64 (dl l k))]:=c125 _ (hq.minus hp) hK (by omega)
  have hb1:(k:Int) + 1 ≤ 140737488355328:=by omega
  have hb2:((k:Int) + 1) * 8 ≤ 140737488355328:=by omega
  have htk:List.take k ((dls l k).map enc1) = (dls l k).map enc1:=List.take_of_length_le (by simp)
  have hst:(dls l (k + 1)).map enc1 = (dls l k).map enc1 ++ [[.int .i64 (dl l k)]]:=by rw [dls_succ]; simp [enc1]
  have hr2:¬ dl l k < 0 → ∀ j,j < k + 1 → 0 ≤ dl l j:=by
   intro hn j hj
   rcases Nat.lt_succ_iff_lt_or_eq.1 hj with h' | rfl
   ·exact hr j h'
   ·omega
  by_cases h0:k = 0
  ·have hI:∀ {α:Type} (a b:α),(if k = 0 then a else b) = a:=fun a b=>if_pos h0
   simp (maxSteps:=999999) (disch:=first|exact {}|omega|simp) [zS,hlt,encPs_get hlt,hne,rm,hm0,hm1,hmod,eq2,hI]
   refine zC (c126 (nxt l k) (nth l k) hq hp hK (by omega)) ?_
   simp (maxSteps:=999999) (disch:=first|exact {}|omega|simp) [zS]
   refine zC (hd) ?_
   simp (maxSteps:=999999) (disch:=first|exact {}|omega|simp) [zS]
   (first | refine Gd.dec (fun h4=>?_) (fun h4=>?_) | refine Gd.intro (fun h4=>?_) (fun h4=>?_)) <;> simp (maxSteps:=999999) (disch:=first|exact {}|omega|simp) [zS,h4]
   ·simp (maxSteps:=999999) (disch:=first|exact {}|omega|simp) [zS,sides_no hlt h4]
   ·subst h0
    (refine ⟨⟨0 + 1,by omega,hr2 h4⟩,by (simp; try omega), ?_⟩; constructor <;> (simp (maxSteps:=999999) (disch:=first|exact {}|omega|simp) [zS,dls,enc1]) <;> (try omega))
  ·simp (maxSteps:=999999) (disch:=first|exact {}|omega|simp) [zS,hlt,encPs_get hlt,hne,rm,hm0,hm1,hmod,eq2,h0]
   refine zC (c126 (nxt l k) (nth l k) hq hp hK (by omega)) ?_
   simp (maxSteps:=999999) (disch:=first|exact {}|omega|simp) [zS]
   refine zC (hd) ?_
   simp (maxSteps:=999999) (disch:=first|exact {}|omega|simp) [zS]
   (first | refine Gd.dec (fun h4=>?_) (fun h4=>?_) | refine Gd.intro (fun h4=>?_) (fun h4=>?_)) <;> simp (maxSteps:=999999) (disch:=first|exact {}|omega|simp) [zS,h4]
   ·simp (maxSteps:=999999) (disch:=first|exact {}|omega|simp) [zS,sides_no hlt h4]
   ·(refine ⟨⟨k + 1,by omega,hr2 h4⟩,by (simp; try omega), ?_⟩; constructor <;> (simp (maxSteps:=999999) (disch:=first|exact {}|omega|simp) [zS,hst,htk]) <;> (try omega))
 ·obtain rfl:k = l.length:=by omega
  have hy:=sides_yes hr
  have htk:List.take l.length ((dls l l.length).map enc1) = (dls l l.length).map enc1:=List.take_of_length_le (by simp)
  by_cases h0:l = []
  ·subst h0; simp (maxSteps:=999999) (disch:=first|exact {}|omega|simp) [zS,hy,dls]
  ·have h0':¬ l.length = 0:=by simpa using h0
   simp (maxSteps:=999999) (disch:=first|exact {}|omega|simp) [zS,h0,h0',hy,htk]
end Go.Vai
namespace Go.Vai
def okP (l:List Pt) (j:Nat):Bool:=vP (nth l j) && (decide (j = 0) || decide (pcmp (nth l 0) (nth l j) < 0))
def turnS (l:List Pt) (k:Nat):Int:=(dl l ((k + 1) % l.length) - dl l k) % 16
def sumT (l:List Pt):Nat → Int
 | 0=>0
 | k + 1=>sumT l k + turnS l k
theorem sumT_range (l:List Pt):∀ k,0 ≤ sumT l k ∧ sumT l k ≤ 15 * k
 | 0=>by simp [sumT]
 | k + 1=>by have:=sumT_range l k; simp only [sumT,turnS]; omega
def ptsS (l:List Pt):Bool:=(List.range l.length).all (okP l)
def turnsS (l:List Pt):Bool:=(List.range l.length).all fun k=>inB (turnS l k) 1 7
def polS (l:List Pt):Bool:=inB l.length 3 16 && ptsS l && sidesOk l && turnsS l && decide (sumT l l.length = 16)
theorem all_no {f:Nat → Bool} {n k:Nat} (hk:k < n) (h:f k = false):(List.range n).all f = false:=by
 rw [← Bool.not_eq_true]; intro hr
 simp only [List.all_eq_true,List.mem_range] at hr
 rw [hr k hk] at h; simp at h
theorem all_yes {f:Nat → Bool} {n:Nat} (h:∀ j,j < n → f j = true):(List.range n).all f = true:=by
 simp only [List.all_eq_true,List.mem_range]; exact h
theorem ptsS_all {l:List Pt} (h:∀ j,j < l.length → okP l j = true):∀ p ∈ l,PB 10 134217728 p:=by
 intro p hp
 obtain ⟨j,hj,rfl⟩:=List.getElem_of_mem hp
 have:=h j hj
 simp only [okP,Bool.and_eq_true] at this
 rw [nth_eq hj] at this
 exact vP_bound this.1
theorem dls_get {l:List Pt} {n k:Nat} (h:k < n):((dls l n).map enc1)[k]? = some [.int .i64 (dl l k)]:=by
 simp [dls,h,enc1]
theorem c182 (l:List Pt) (hl:(l.length:Int) ≤ 1048576):PC E 182 [.i (.sl (encPs l))] [.i (.bool (polS l))]:=by
 refine zP hE Proofs.Tryz.func182 Proofs.Tryz.ntmps182 rfl rfl ?_
 simp (maxSteps:=999999) (disch:=first|exact {}|omega|simp) [zS]
 (first | refine Gd.dec (fun h3=>?_) (fun h3=>?_) | refine Gd.intro (fun h3=>?_) (fun h3=>?_)) <;> simp (maxSteps:=999999) (disch:=first|exact {}|omega|simp) [zS,h3]
 ·have:polS l = false:=by unfold polS inB; rw [show decide (3 ≤ (l.length:Int)) = false by simp; omega]; simp
  rw [this]
 (first | refine Gd.dec (fun h16=>?_) (fun h16=>?_) | refine Gd.intro (fun h16=>?_) (fun h16=>?_)) <;> simp (maxSteps:=999999) (disch:=first|exact {}|omega|simp) [zS,h16]
 ·have:polS l = false:=by unfold polS inB; rw [show decide ((l.length:Int) ≤ 16) = false by simp; omega]; simp
  rw [this]
 have hin:inB l.length 3 16 = true:=by unfold inB; simp; omega
 refine XL.by hE (ι:={ k:Nat // k ≤ l.length ∧ ∀ j,j < k → okP l j = true }) (fun k=>⟨[(0,.i (.sl (encPs l))),(3,.i (.int .i64 l.length)),(4,.i (.int .i64 k.1))],[]⟩)
  (fun k=>l.length - k.1) ⟨0,Nat.zero_le _,by simp⟩ ⟨by simp,by simp,by simp⟩ (by kernel_rfl) ?_
 rintro ⟨k,hk,hr⟩
 by_cases hlt:k < l.length
 ·have hlp:0 < l.length:=by omega
  have hno:okP l k = false → polS l = false:=fun hh=>by unfold polS ptsS; rw [all_no hlt hh]; simp
  simp (maxSteps:=999999) (disch:=first|exact {}|omega|simp) [zS,hlt,encPs_get hlt]
  refine zC (c241 (nth l k)) ?_
  simp (maxSteps:=999999) (disch:=first|exact {}|omega|simp) [zS]
  (first | refine Gd.dec (fun h4=>?_) (fun h4=>?_) | refine Gd.intro (fun h4=>?_) (fun h4=>?_)) <;> simp (maxSteps:=999999) (disch:=first|exact {}|omega|simp) [zS,h4]
  ·by_cases h0:k = 0
   ·subst h0
    simp (maxSteps:=999999) (disch:=first|exact {}|omega|simp) [zS]
    (refine ⟨⟨0 + 1,by omega,stepAll hr (by simp [okP,h4])⟩,by (simp; try omega), ?_⟩; constructor <;> (simp (maxSteps:=999999) (disch:=first|exact {}|omega|simp) [zS]) <;> (try omega))
   ·have h00:0 < k:=by omega
    have hv0:vP (nth l 0) = true:=by have:=hr 0 h00; simp only [okP,Bool.and_eq_true] at this; exact this.1
    simp (maxSteps:=999999) (disch:=first|exact {}|omega|simp) [zS,hlt,h00,hlp,encPs_get hlt,encPs_get hlp]
    refine zC (c130 (nth l 0) (nth l k) (vP_bound hv0) (vP_bound h4) (by decide) (by decide)) ?_
    simp (maxSteps:=999999) (disch:=first|exact {}|omega|simp) [zS]
    (first | refine Gd.dec (fun h5=>?_) (fun h5=>?_) | refine Gd.intro (fun h5=>?_) (fun h5=>?_)) <;> simp (maxSteps:=999999) (disch:=first|exact {}|omega|simp) [zS,h5]
    ·rw [hno (by simp [okP,h0]; omega)]
    ·(refine ⟨⟨k + 1,by omega,stepAll hr (by simp [okP,h4]; omega)⟩,by (simp; try omega), ?_⟩; constructor <;> (simp (maxSteps:=999999) (disch:=first|exact {}|omega|simp) [zS]) <;> (try omega))
  ·rw [hno (by simp [okP,h4])]
 ·obtain rfl:k = l.length:=by omega
  have hpp:=ptsS_all hr
  have hps:ptsS l = true:=all_yes hr
  simp (maxSteps:=999999) (disch:=first|exact {}|omega|simp) [zS]
  refine zC ((c245 l hl).imm) ?_
  simp (maxSteps:=999999) (disch:=first|exact {}|omega|simp) [zS]
  refine zC (c244 l hpp (by decide) (by decide) hl) ?_
  simp (maxSteps:=999999) (disch:=first|exact {}|omega|simp) [zS]
  (first | refine Gd.dec (fun h6=>?_) (fun h6=>?_) | refine Gd.intro (fun h6=>?_) (fun h6=>?_)) <;> simp (maxSteps:=999999) (disch:=first|exact {}|omega|simp) [zS,h6]
  rotate_left
  ·have:polS l = false:=by unfold polS; rw [h6]; simp
   rw [this]
  have htd:List.take l.length (List.map enc1 (dls l l.length)) = List.map enc1 (dls l l.length):=List.take_of_length_le (by simp)
  refine XL.by hE (ι:={ k:Nat // k ≤ l.length ∧ ∀ j,j < k → inB (turnS l j) 1 7 = true }) (fun k=>⟨[(3,.i (.int .i64 l.length)),(5,.i (.sl ((dls l l.length).map enc1))),(7,.i (.int .i64 (sumT l k.1))),(8,.i (.int .i64 k.1))],[]⟩)
   (fun k=>l.length - k.1) ⟨0,Nat.zero_le _,by simp⟩ ⟨by simp [sumT,h6,htd],by simp,by simp⟩ (by kernel_rfl) ?_
  rintro ⟨k,hk,hr⟩
  have hs:=sumT_range l k
  by_cases hlt:k < l.length
  ·have hmod:(k + 1) % l.length < l.length:=Nat.mod_lt _ (by omega)
   have hne:¬ l = []:=by rintro rfl; simp at hlt
   have rm:((k:Int) + 1).tmod (l.length:Int) = (((k + 1) % l.length:Nat):Int):=by
    rw [Int.tmod_eq_emod_of_nonneg (by omega)]; simp
   have hm0:¬ (((k:Int) + 1) % (l.length:Int) < 0):=by have:=Int.emod_nonneg ((k:Int) + 1) (b:=(l.length:Int)) (by omega); omega
   have hm1:(((k:Int) + 1) % (l.length:Int)).toNat = (k + 1) % l.length:=by
    have:((k:Int) + 1) % (l.length:Int) = (((k + 1) % l.length:Nat):Int):=by simp
    rw [this]; rfl
   have hd1:=dl_range l k
   have hd2:=dl_range l ((k + 1) % l.length)
   have g1:((dls l l.length).map enc1)[k]? = some [.int .i64 (dl l k)]:=dls_get hlt
   have g2:((dls l l.length).map enc1)[(k + 1) % l.length]? = some [.int .i64 (dl l ((k + 1) % l.length))]:=dls_get hmod
   have hs1:sumT l (k + 1) = sumT l k + turnS l k:=rfl
   have hts:(dl l ((k + 1) % l.length) - dl l k) % 16 = turnS l k:=rfl
   have htr:0 ≤ turnS l k ∧ turnS l k ≤ 15:=by unfold turnS; omega
   generalize (dls l l.length).map enc1 = D at *
   simp (maxSteps:=999999) (disch:=first|exact {}|omega|simp) [zS,hlt,hne,rm,hm0,hm1,hmod,g1,g2]
   refine zC (c157 (dl l ((k + 1) % l.length) - dl l k) (by omega) (by omega)) ?_
   simp (maxSteps:=999999) (disch:=first|exact {}|omega|simp) [zS,hts]
   refine zC (c45 _ _ _) ?_
   simp (maxSteps:=999999) (disch:=first|exact {}|omega|simp) [zS]
   (first | refine Gd.dec (fun h7=>?_) (fun h7=>?_) | refine Gd.intro (fun h7=>?_) (fun h7=>?_)) <;> simp (maxSteps:=999999) (disch:=first|exact {}|omega|simp) [zS,h7]
   ·(refine ⟨⟨k + 1,by omega,stepAll hr h7⟩,by (simp; try omega), ?_⟩; constructor <;> (simp (maxSteps:=999999) (disch:=first|exact {}|omega|simp) [zS,hs1]) <;> (try omega))
   ·have:polS l = false:=by unfold polS turnsS; rw [all_no (f:=fun k=>inB (turnS l k) 1 7) hlt h7]; simp
    rw [this]
  ·obtain rfl:k = l.length:=by omega
   have ht:turnsS l = true:=all_yes hr
   simp (maxSteps:=999999) (disch:=first|exact {}|omega|simp) [zS,polS,hin,hps,h6,ht]
end Go.Vai
