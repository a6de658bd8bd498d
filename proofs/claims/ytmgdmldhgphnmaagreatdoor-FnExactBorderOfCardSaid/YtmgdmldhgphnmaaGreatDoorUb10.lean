/- Texts of this claim: Zp6. -/
import Derived.Test.YtmgdmldhgphnmaaGreatDoorUb9
set_option linter.unusedVariables false
set_option linter.unusedSimpArgs false
set_option maxHeartbeats 4000000
namespace Go.Vai
theorem c82 (l m:Li) {K M:Nat} (h:NB K M l.off) (h':NB K M m.off) (hK:K ≤ 50) (hM:576 * M ≤ 4611686018427387904) (h0:0 ≤ l.dir) (h1:l.dir ≤ 7) (g0:0 ≤ m.dir) (g1:m.dir ≤ 7) (hne:l.dir ≠ m.dir) :
  PC E 82 [.agg (encLi l),.agg (encLi m)] [.agg (encP (meetP l m))]:=by
 refine PC_start hE Proofs.Tryz.func82 rfl rfl Proofs.Tryz.ntmps82 (by kernel_rfl) (by kernel_rfl) (by simp) ?_
 have hl:=vec_PB (d:=l.dir + 4) (by omega) (by omega)
 have hm:=vec_PB (d:=m.dir + 4) (by omega) (by omega)
 have hd:=det_Dv h0 h1 g0 g1 hne
 simp (maxSteps:=999999) (disch:=first|exact {}|omega|simp) [Lw,Lm,Lt,Lo,Ln,allLen,encLi]
 refine CallK.of (c171 (l.dir + 4) (by omega) (by omega)) (by first | exact .inl rfl | exact .inr (by simp)) (by simp) ?_
 rw [mod16 (by omega) (by omega)]
 simp (maxSteps:=999999) (disch:=first|exact {}|omega|simp) [Lw,Lm,Lt,Lo,Ln,allLen]
 refine CallK.of (c163 (vec (l.dir + 4))) (by first | exact .inl rfl | exact .inr (by simp)) (by simp) ?_
 simp (maxSteps:=999999) (disch:=first|exact {}|omega|simp) [Lw,Lm,Lt,Lo,Ln,allLen,encP]
 refine CallK.of (c171 (m.dir + 4) (by omega) (by omega)) (by first | exact .inl rfl | exact .inr (by simp)) (by simp) ?_
 rw [mod16 (by omega) (by omega)]
 simp (maxSteps:=999999) (disch:=first|exact {}|omega|simp) [Lw,Lm,Lt,Lo,Ln,allLen]
 refine CallK.of (c163 (vec (m.dir + 4))) (by first | exact .inl rfl | exact .inr (by simp)) (by simp) ?_
 simp (maxSteps:=999999) (disch:=first|exact {}|omega|simp) [Lw,Lm,Lt,Lo,Ln,allLen,encP]
 refine CallK.of (c172 (vec (l.dir + 4)).x (vec (m.dir + 4)).y hl.1 hm.2 (by decide) (by decide) (by decide)) (by first | exact .inl rfl | exact .inr (by simp)) (by simp) ?_
 simp (maxSteps:=999999) (disch:=first|exact {}|omega|simp) [Lw,Lm,Lt,Lo,Ln,allLen,encP]
 refine CallK.of (c172 (vec (l.dir + 4)).y (vec (m.dir + 4)).x hl.2 hm.1 (by decide) (by decide) (by decide)) (by first | exact .inl rfl | exact .inr (by simp)) (by simp) ?_
 simp (maxSteps:=999999) (disch:=first|exact {}|omega|simp) [Lw,Lm,Lt,Lo,Ln,allLen]
 refine CallK.of (c167 _ _ (hl.1.vecm hm.2) (hl.2.vecm hm.1) (by decide) (by decide)) (by first | exact .inl rfl | exact .inr (by simp)) (by simp) ?_
 simp (maxSteps:=999999) (disch:=first|exact {}|omega|simp) [Lw,Lm,Lt,Lo,Ln,allLen,encP,encLi]
 refine CallK.of (c172 l.off (vec (m.dir + 4)).y h hm.2 (by omega) (by omega) (by omega)) (by first | exact .inl rfl | exact .inr (by simp)) (by simp) ?_
 simp (maxSteps:=999999) (disch:=first|exact {}|omega|simp) [Lw,Lm,Lt,Lo,Ln,allLen,encP,encLi]
 refine CallK.of (c172 m.off (vec (l.dir + 4)).y h' hl.2 (by omega) (by omega) (by omega)) (by first | exact .inl rfl | exact .inr (by simp)) (by simp) ?_
 simp (maxSteps:=999999) (disch:=first|exact {}|omega|simp) [Lw,Lm,Lt,Lo,Ln,allLen]
 refine CallK.of (c167 _ _ (h.vecm hm.2) (h'.vecm hl.2) (by omega) (by omega)) (by first | exact .inl rfl | exact .inr (by simp)) (by simp) ?_
 simp (maxSteps:=999999) (disch:=first|exact {}|omega|simp) [Lw,Lm,Lt,Lo,Ln,allLen]
 refine CallK.of (c173 _ (detL l m) ((h.vecm hm.2).sub (h'.vecm hl.2)) hd hK (by omega)) (by first | exact .inl rfl | exact .inr (by simp)) (by simp) ?_
 simp (maxSteps:=999999) (disch:=first|exact {}|omega|simp) [Lw,Lm,Lt,Lo,Ln,allLen,encP,encLi]
 refine CallK.of (c172 m.off (vec (l.dir + 4)).x h' hl.1 (by omega) (by omega) (by omega)) (by first | exact .inl rfl | exact .inr (by simp)) (by simp) ?_
 simp (maxSteps:=999999) (disch:=first|exact {}|omega|simp) [Lw,Lm,Lt,Lo,Ln,allLen,encP,encLi]
 refine CallK.of (c172 l.off (vec (m.dir + 4)).x h hm.1 (by omega) (by omega) (by omega)) (by first | exact .inl rfl | exact .inr (by simp)) (by simp) ?_
 simp (maxSteps:=999999) (disch:=first|exact {}|omega|simp) [Lw,Lm,Lt,Lo,Ln,allLen]
 refine CallK.of (c167 _ _ (h'.vecm hl.1) (h.vecm hm.1) (by omega) (by omega)) (by first | exact .inl rfl | exact .inr (by simp)) (by simp) ?_
 simp (maxSteps:=999999) (disch:=first|exact {}|omega|simp) [Lw,Lm,Lt,Lo,Ln,allLen]
 refine CallK.of (c173 _ (detL l m) ((h'.vecm hl.1).sub (h.vecm hm.1)) hd hK (by omega)) (by first | exact .inl rfl | exact .inr (by simp)) (by simp) ?_
 simp (maxSteps:=999999) (disch:=first|exact {}|omega|simp) [Lw,Lm,Lt,Lo,Ln,allLen,meetP,over,encP,encN]
def halfR (l:Li) (s:Int) (ps:List Pt):List Pt:=if hasN l s ps ps.length = true then cutN l s ps ps.length else []
def vaI2 (v:Va) (l:List Pt):AV:=match v with
 | .n=>.esl
 | .a=>.own 48 0 l.length
 | .b=>.own 68 0 l.length
def vaH2 (v:Va) (l:List Pt):List (Nat × Obj):=match v with
 | .n=>[]
 | .a=>[(48,⟨6,encPs l⟩)]
 | .b=>[(68,⟨6,encPs l⟩)]
theorem thru_eq {p q:Pt} (h:0 ≤ dirR (pminus q p)):lat p (dirR (pminus q p) % 8) = sideL p q:=rfl
theorem cside2 (l:Li) (p:Pt) {K M M':Nat} (h:PB K M p) (h':NB K M' l.off) (hK:K ≤ 60) (hM:6 * M + M' ≤ 4611686018427387904) (h0:0 ≤ l.dir) (h1:l.dir ≤ 7) :
  PC E 79 [.agg (encLi l),.agg (encP p)] [.i (.int .i64 (sd l p))]:=c79 l p h h' hK hM h0 (by omega)
theorem c295 (ps:List Pt) (l:Li) (s:Int) {K M M':Nat} (h:∀ p ∈ ps,PB (K + 3) M' p) (hl:NB K M l.off) (h0:0 ≤ l.dir) (h1:l.dir ≤ 7) (hg:Good K M l s ps) (hM:576 * M ≤ M') (hK:K ≤ 40)
  (hM':16 * M' ≤ 4611686018427387904) (hs:s = 1 ∨ s = -1) (hn:((2 * ps.length:Nat):Int) ≤ 1099511627776) :
  PC E 295 [.i (.sl (encPs ps)),.agg (encLi l),.i (.int .i64 s)] [.own 6 (encPs (halfR l s ps))]:=by
 have hl3:NB (K + 3) (8 * M) l.off:=by
  have:=hl.up (K':=K + 3) (by omega)
  have e:K + 3 - K = 3:=by omega
  rw [e] at this; exact this.mono (by omega)
 refine PC_start hE Proofs.Tryz.func295 rfl rfl Proofs.Tryz.ntmps295 (by kernel_rfl) (by kernel_rfl) (by simp) ?_
 simp (maxSteps:=999999) (disch:=first|exact {}|omega|simp) [Lw,Lm,Lt,Lo,Ln,allLen]
 refine XL.by hE (ι:={ k:Nat × Va // k.1 ≤ ps.length ∧ vaOk k.2 (cutN l s ps k.1) }) (fun k=>⟨[(0,.i (.sl (encPs ps))),(2,.i (.int .i64 s)),(4,.ptr 4 0 0),(7,vaI2 k.1.2 (cutN l s ps k.1.1)),(8,.i (.bool (hasN l s ps k.1.1))),(9,.i (.int .i64 k.1.1))],(4,⟨4,[encLi l]⟩) :: vaH2 k.1.2 (cutN l s ps k.1.1)⟩)
  (fun k=>ps.length - k.1.1) ⟨(0,.n),Nat.zero_le _,rfl⟩ ⟨by simp [vaI2,hasN],by simp [vaH2],by simp [vaI2]⟩ (by kernel_rfl) ?_
 rintro ⟨⟨k,v⟩,hk,hv⟩
 simp only at hk hv
 by_cases hlt:k < ps.length
 ·have hmod:(k + 1) % ps.length < ps.length:=Nat.mod_lt _ (by omega)
  have hp:=h _ (nth_mem hlt)
  have hq:PB (K + 3) M' (nxt ps k):=h _ (nth_mem hmod)
  have hcl:=cutN_len l s ps k
  have hr1:=sd_range l (nth ps k)
  have hr2:=sd_range l (nxt ps k)
  have gk:=hg k hlt
  have eq2:(encPs ps)[(k + 1) % ps.length]? = some (encP (nxt ps k)):=encPs_get hmod
  have hne:¬ ps = []:=by rintro rfl; simp at hlt
  have rm:((k:Int) + 1).tmod (ps.length:Int) = (((k + 1) % ps.length:Nat):Int):=by
   rw [Int.tmod_eq_emod_of_nonneg (by omega)]; simp
  have hm0:¬ (((k:Int) + 1) % (ps.length:Int) < 0):=by have:=Int.emod_nonneg ((k:Int) + 1) (b:=(ps.length:Int)) (by omega); omega
  have hm1:(((k:Int) + 1) % (ps.length:Int)).toNat = (k + 1) % ps.length:=by
   have:((k:Int) + 1) % (ps.length:Int) = (((k + 1) % ps.length:Nat):Int):=by simp
   rw [this]; rfl
  have w1:=wr_s hs hr1
  have w2:=wr_s hs hr2
  have w3:=wr_ss hs hr1 hr2
  have c1:=cside2 l (nth ps k) hp hl3 (by omega) (by omega) h0 h1
  have c2:=cside2 l (nxt ps k) hq hl3 (by omega) (by omega) h0 h1
  generalize hA:s * sd l (nth ps k) = A at *
  generalize hB:s * sd l (nxt ps k) = B at *
  have lP:∀ p:Pt,(encP p).length = 6:=fun _=>rfl
  have lL:∀ l:Li,(encLi l).length = 4:=fun _=>rfl
  have tk:List.take (cutN l s ps k).length (List.map encP (cutN l s ps k)) = List.map encP (cutN l s ps k):=List.take_of_length_le (by simp)
  have tk2:∀ p:Pt,List.take ((cutN l s ps k).length + 1) (List.map encP (cutN l s ps k) ++ [encP p]) = List.map encP (cutN l s ps k) ++ [encP p]:=fun p=>List.take_of_length_le (by simp)
  have big1:((cutN l s ps k).length:Int) + 1 ≤ 140737488355328:=by omega
  have big2:(((cutN l s ps k).length:Int) + 1) * 48 ≤ 140737488355328:=by omega
  have big3:((cutN l s ps k).length:Int) + 1 + 1 ≤ 140737488355328:=by omega
  have big4:(((cutN l s ps k).length:Int) + 1 + 1) * 48 ≤ 140737488355328:=by omega
  have hdr:=dirR_range (pminus (nxt ps k) (nth ps k))
  cases v with
  | n =>
   simp only [vaOk] at hv
   simp (maxSteps:=999999) (disch:=first|exact {}|omega|simp) [Lw,Lm,Lt,Lo,Ln,allLen,hlt,encPs_get hlt,vaI2,vaH2,hne,rm,hm0,hm1,hmod,eq2,lP,lL]
   refine CallK.of (c1) (by first | exact .inl rfl | exact .inr (by simp)) (by simp) ?_
   simp (maxSteps:=999999) (disch:=first|exact {}|omega|simp) [Lw,Lm,Lt,Lo,Ln,allLen,hlt,encPs_get hlt,vaI2,vaH2,hne,rm,hm0,hm1,hmod,eq2,lP,lL,w1,hA]
   refine CallK.of (c2) (by first | exact .inl rfl | exact .inr (by simp)) (by simp) ?_
   simp (maxSteps:=999999) (disch:=first|exact {}|omega|simp) [Lw,Lm,Lt,Lo,Ln,allLen,hlt,encPs_get hlt,vaI2,vaH2,hne,rm,hm0,hm1,hmod,eq2,lP,lL,w2,hA,hB]
   cases hh:hasN l s ps k
   ·(first | refine Gd.dec (fun h4=>?_) (fun h4=>?_) | refine Gd.intro (fun h4=>?_) (fun h4=>?_)) <;> simp (maxSteps:=999999) (disch:=first|exact {}|omega|simp) [Lw,Lm,Lt,Lo,Ln,allLen,h4]
    ·simp (maxSteps:=999999) (disch:=first|exact {}|omega|simp) [Lw,Lm,Lt,Lo,Ln,allLen,h4,w3,lP,lL,mem_encPs,most,big1,big2,hh]
     (first | refine Gd.dec (fun h5=>?_) (fun h5=>?_) | refine Gd.intro (fun h5=>?_) (fun h5=>?_)) <;> simp (maxSteps:=999999) (disch:=first|exact {}|omega|simp) [Lw,Lm,Lt,Lo,Ln,allLen,h5]
     ·obtain ⟨g1,g2,g3⟩:=gk h5
      refine CallK.of (c165 (nxt ps k) (nth ps k) hq hp (by omega) (by omega)) (by first | exact .inl rfl | exact .inr (by simp)) (by simp) ?_
      simp (maxSteps:=999999) (disch:=first|exact {}|omega|simp) [Lw,Lm,Lt,Lo,Ln,allLen]
      refine CallK.of (c164 _ (hq.minus hp) (by omega) (by omega)) (by first | exact .inl rfl | exact .inr (by simp)) (by simp) ?_
      simp (maxSteps:=999999) (disch:=first|exact {}|omega|simp) [Lw,Lm,Lt,Lo,Ln,allLen]
      refine CallK.of (c174 (nth ps k) (dirR (pminus (nxt ps k) (nth ps k))) hp (by omega) (by omega) (by omega) (by omega)) (by first | exact .inl rfl | exact .inr (by simp)) (by simp) ?_
      rw [thru_eq g1]
      simp (maxSteps:=999999) (disch:=first|exact {}|omega|simp) [Lw,Lm,Lt,Lo,Ln,allLen,lP,lL]
      refine CallK.of (c82 (sideL (nth ps k) (nxt ps k)) l g3 hl (by omega) (by omega) (sideL_dir _ _).1 (sideL_dir _ _).2 h0 h1 g2) (by first | exact .inl rfl | exact .inr (by simp)) (by simp) ?_
      simp (maxSteps:=999999) (disch:=first|exact {}|omega|simp) [Lw,Lm,Lt,Lo,Ln,allLen,lP,lL,mem_encPs,most,big1,big2,big3,big4]
      have hcut:cutN l s ps (k + 1) = cutN l s ps k ++ cutF l s (nth ps k) (nxt ps k):=rfl
      simp only [cutF,hA,hB,h4,h5,hv,if_true,if_false,List.nil_append,List.append_nil,List.append_assoc,List.cons_append] at hcut
      generalize meetP (sideL (nth ps k) (nxt ps k)) l = X at *
      generalize sideL (nth ps k) (nxt ps k) = Y at *
      (refine ⟨⟨(k + 1,.a),by omega,trivial⟩,by (simp; try omega), ?_⟩; constructor <;> (simp (maxSteps:=999999) (disch:=first|exact {}|omega|simp) [Lw,Lm,Lt,Lo,Ln,allLen,hcut,hA,hB,h4,h5,hv,hasN,hh,vaI2,vaH2,encPs,tk,tk2]) <;> (try omega))
     ·(refine ⟨⟨(k + 1,.a),by omega,trivial⟩,by (simp; try omega), ?_⟩; constructor <;> (simp (maxSteps:=999999) (disch:=first|exact {}|omega|simp) [Lw,Lm,Lt,Lo,Ln,allLen,cutN,cutF,hA,hB,h4,h5,hv,hasN,hh,vaI2,vaH2,encPs,tk,tk2]) <;> (try omega))
    ·have h40:¬ 0 < A:=by omega
     simp (maxSteps:=999999) (disch:=first|exact {}|omega|simp) [Lw,Lm,Lt,Lo,Ln,allLen,h4,w3,lP,lL,hh]
     (first | refine Gd.dec (fun h5=>?_) (fun h5=>?_) | refine Gd.intro (fun h5=>?_) (fun h5=>?_)) <;> simp (maxSteps:=999999) (disch:=first|exact {}|omega|simp) [Lw,Lm,Lt,Lo,Ln,allLen,h5]
     ·obtain ⟨g1,g2,g3⟩:=gk h5
      refine CallK.of (c165 (nxt ps k) (nth ps k) hq hp (by omega) (by omega)) (by first | exact .inl rfl | exact .inr (by simp)) (by simp) ?_
      simp (maxSteps:=999999) (disch:=first|exact {}|omega|simp) [Lw,Lm,Lt,Lo,Ln,allLen]
      refine CallK.of (c164 _ (hq.minus hp) (by omega) (by omega)) (by first | exact .inl rfl | exact .inr (by simp)) (by simp) ?_
      simp (maxSteps:=999999) (disch:=first|exact {}|omega|simp) [Lw,Lm,Lt,Lo,Ln,allLen]
      refine CallK.of (c174 (nth ps k) (dirR (pminus (nxt ps k) (nth ps k))) hp (by omega) (by omega) (by omega) (by omega)) (by first | exact .inl rfl | exact .inr (by simp)) (by simp) ?_
      rw [thru_eq g1]
      simp (maxSteps:=999999) (disch:=first|exact {}|omega|simp) [Lw,Lm,Lt,Lo,Ln,allLen,lP,lL]
      refine CallK.of (c82 (sideL (nth ps k) (nxt ps k)) l g3 hl (by omega) (by omega) (sideL_dir _ _).1 (sideL_dir _ _).2 h0 h1 g2) (by first | exact .inl rfl | exact .inr (by simp)) (by simp) ?_
      simp (maxSteps:=999999) (disch:=first|exact {}|omega|simp) [Lw,Lm,Lt,Lo,Ln,allLen,lP,lL,mem_encPs,most,big1,big2,big3,big4]
      have hcut:cutN l s ps (k + 1) = cutN l s ps k ++ cutF l s (nth ps k) (nxt ps k):=rfl
      simp only [cutF,hA,hB,h4,h5,hv,if_true,if_false,List.nil_append,List.append_nil,List.append_assoc,List.cons_append] at hcut
      generalize meetP (sideL (nth ps k) (nxt ps k)) l = X at *
      generalize sideL (nth ps k) (nxt ps k) = Y at *
      (refine ⟨⟨(k + 1,.b),by omega,trivial⟩,by (simp; try omega), ?_⟩; constructor <;> (simp (maxSteps:=999999) (disch:=first|exact {}|omega|simp) [Lw,Lm,Lt,Lo,Ln,allLen,hcut,hA,hB,h4,h5,hv,hasN,hh,vaI2,vaH2,encPs,tk,tk2]) <;> (try omega))
     ·(refine ⟨⟨(k + 1,.n),by omega,by simp [vaOk,cutN,cutF,hA,hB,h4,h5,hv]⟩,by (simp; try omega), ?_⟩; constructor <;> (simp (maxSteps:=999999) (disch:=first|exact {}|omega|simp) [Lw,Lm,Lt,Lo,Ln,allLen,cutN,cutF,hA,hB,h4,h5,h40,hv,hasN,hh,vaI2,vaH2,encPs,tk,tk2]) <;> (try omega))
   ·(first | refine Gd.dec (fun h4=>?_) (fun h4=>?_) | refine Gd.intro (fun h4=>?_) (fun h4=>?_)) <;> simp (maxSteps:=999999) (disch:=first|exact {}|omega|simp) [Lw,Lm,Lt,Lo,Ln,allLen,h4]
    ·simp (maxSteps:=999999) (disch:=first|exact {}|omega|simp) [Lw,Lm,Lt,Lo,Ln,allLen,h4,w3,lP,lL,mem_encPs,most,big1,big2,hh]
     (first | refine Gd.dec (fun h5=>?_) (fun h5=>?_) | refine Gd.intro (fun h5=>?_) (fun h5=>?_)) <;> simp (maxSteps:=999999) (disch:=first|exact {}|omega|simp) [Lw,Lm,Lt,Lo,Ln,allLen,h5]
     ·obtain ⟨g1,g2,g3⟩:=gk h5
      refine CallK.of (c165 (nxt ps k) (nth ps k) hq hp (by omega) (by omega)) (by first | exact .inl rfl | exact .inr (by simp)) (by simp) ?_
      simp (maxSteps:=999999) (disch:=first|exact {}|omega|simp) [Lw,Lm,Lt,Lo,Ln,allLen]
      refine CallK.of (c164 _ (hq.minus hp) (by omega) (by omega)) (by first | exact .inl rfl | exact .inr (by simp)) (by simp) ?_
      simp (maxSteps:=999999) (disch:=first|exact {}|omega|simp) [Lw,Lm,Lt,Lo,Ln,allLen]
      refine CallK.of (c174 (nth ps k) (dirR (pminus (nxt ps k) (nth ps k))) hp (by omega) (by omega) (by omega) (by omega)) (by first | exact .inl rfl | exact .inr (by simp)) (by simp) ?_
      rw [thru_eq g1]
      simp (maxSteps:=999999) (disch:=first|exact {}|omega|simp) [Lw,Lm,Lt,Lo,Ln,allLen,lP,lL]
      refine CallK.of (c82 (sideL (nth ps k) (nxt ps k)) l g3 hl (by omega) (by omega) (sideL_dir _ _).1 (sideL_dir _ _).2 h0 h1 g2) (by first | exact .inl rfl | exact .inr (by simp)) (by simp) ?_
      simp (maxSteps:=999999) (disch:=first|exact {}|omega|simp) [Lw,Lm,Lt,Lo,Ln,allLen,lP,lL,mem_encPs,most,big1,big2,big3,big4]
      have hcut:cutN l s ps (k + 1) = cutN l s ps k ++ cutF l s (nth ps k) (nxt ps k):=rfl
      simp only [cutF,hA,hB,h4,h5,hv,if_true,if_false,List.nil_append,List.append_nil,List.append_assoc,List.cons_append] at hcut
      generalize meetP (sideL (nth ps k) (nxt ps k)) l = X at *
      generalize sideL (nth ps k) (nxt ps k) = Y at *
      (refine ⟨⟨(k + 1,.a),by omega,trivial⟩,by (simp; try omega), ?_⟩; constructor <;> (simp (maxSteps:=999999) (disch:=first|exact {}|omega|simp) [Lw,Lm,Lt,Lo,Ln,allLen,hcut,hA,hB,h4,h5,hv,hasN,hh,vaI2,vaH2,encPs,tk,tk2]) <;> (try omega))
     ·(refine ⟨⟨(k + 1,.a),by omega,trivial⟩,by (simp; try omega), ?_⟩; constructor <;> (simp (maxSteps:=999999) (disch:=first|exact {}|omega|simp) [Lw,Lm,Lt,Lo,Ln,allLen,cutN,cutF,hA,hB,h4,h5,hv,hasN,hh,vaI2,vaH2,encPs,tk,tk2]) <;> (try omega))
    ·have h40:¬ 0 < A:=by omega
     simp (maxSteps:=999999) (disch:=first|exact {}|omega|simp) [Lw,Lm,Lt,Lo,Ln,allLen,h4,w3,lP,lL,hh]
     (first | refine Gd.dec (fun h5=>?_) (fun h5=>?_) | refine Gd.intro (fun h5=>?_) (fun h5=>?_)) <;> simp (maxSteps:=999999) (disch:=first|exact {}|omega|simp) [Lw,Lm,Lt,Lo,Ln,allLen,h5]
     ·obtain ⟨g1,g2,g3⟩:=gk h5
      refine CallK.of (c165 (nxt ps k) (nth ps k) hq hp (by omega) (by omega)) (by first | exact .inl rfl | exact .inr (by simp)) (by simp) ?_
      simp (maxSteps:=999999) (disch:=first|exact {}|omega|simp) [Lw,Lm,Lt,Lo,Ln,allLen]
      refine CallK.of (c164 _ (hq.minus hp) (by omega) (by omega)) (by first | exact .inl rfl | exact .inr (by simp)) (by simp) ?_
      simp (maxSteps:=999999) (disch:=first|exact {}|omega|simp) [Lw,Lm,Lt,Lo,Ln,allLen]
      refine CallK.of (c174 (nth ps k) (dirR (pminus (nxt ps k) (nth ps k))) hp (by omega) (by omega) (by omega) (by omega)) (by first | exact .inl rfl | exact .inr (by simp)) (by simp) ?_
      rw [thru_eq g1]
      simp (maxSteps:=999999) (disch:=first|exact {}|omega|simp) [Lw,Lm,Lt,Lo,Ln,allLen,lP,lL]
      refine CallK.of (c82 (sideL (nth ps k) (nxt ps k)) l g3 hl (by omega) (by omega) (sideL_dir _ _).1 (sideL_dir _ _).2 h0 h1 g2) (by first | exact .inl rfl | exact .inr (by simp)) (by simp) ?_
      simp (maxSteps:=999999) (disch:=first|exact {}|omega|simp) [Lw,Lm,Lt,Lo,Ln,allLen,lP,lL,mem_encPs,most,big1,big2,big3,big4]
      have hcut:cutN l s ps (k + 1) = cutN l s ps k ++ cutF l s (nth ps k) (nxt ps k):=rfl
      simp only [cutF,hA,hB,h4,h5,hv,if_true,if_false,List.nil_append,List.append_nil,List.append_assoc,List.cons_append] at hcut
      generalize meetP (sideL (nth ps k) (nxt ps k)) l = X at *
      generalize sideL (nth ps k) (nxt ps k) = Y at *
      (refine ⟨⟨(k + 1,.b),by omega,trivial⟩,by (simp; try omega), ?_⟩; constructor <;> (simp (maxSteps:=999999) (disch:=first|exact {}|omega|simp) [Lw,Lm,Lt,Lo,Ln,allLen,hcut,hA,hB,h4,h5,hv,hasN,hh,vaI2,vaH2,encPs,tk,tk2]) <;> (try omega))
     ·(refine ⟨⟨(k + 1,.n),by omega,by simp [vaOk,cutN,cutF,hA,hB,h4,h5,hv]⟩,by (simp; try omega), ?_⟩; constructor <;> (simp (maxSteps:=999999) (disch:=first|exact {}|omega|simp) [Lw,Lm,Lt,Lo,Ln,allLen,cutN,cutF,hA,hB,h4,h5,h40,hv,hasN,hh,vaI2,vaH2,encPs,tk,tk2]) <;> (try omega))
  | a =>
   simp only [vaOk] at hv
   simp (maxSteps:=999999) (disch:=first|exact {}|omega|simp) [Lw,Lm,Lt,Lo,Ln,allLen,hlt,encPs_get hlt,vaI2,vaH2,hne,rm,hm0,hm1,hmod,eq2,lP,lL]
   refine CallK.of (c1) (by first | exact .inl rfl | exact .inr (by simp)) (by simp) ?_
   simp (maxSteps:=999999) (disch:=first|exact {}|omega|simp) [Lw,Lm,Lt,Lo,Ln,allLen,hlt,encPs_get hlt,vaI2,vaH2,hne,rm,hm0,hm1,hmod,eq2,lP,lL,w1,hA]
   refine CallK.of (c2) (by first | exact .inl rfl | exact .inr (by simp)) (by simp) ?_
   simp (maxSteps:=999999) (disch:=first|exact {}|omega|simp) [Lw,Lm,Lt,Lo,Ln,allLen,hlt,encPs_get hlt,vaI2,vaH2,hne,rm,hm0,hm1,hmod,eq2,lP,lL,w2,hA,hB]
   cases hh:hasN l s ps k
   ·(first | refine Gd.dec (fun h4=>?_) (fun h4=>?_) | refine Gd.intro (fun h4=>?_) (fun h4=>?_)) <;> simp (maxSteps:=999999) (disch:=first|exact {}|omega|simp) [Lw,Lm,Lt,Lo,Ln,allLen,h4]
    ·simp (maxSteps:=999999) (disch:=first|exact {}|omega|simp) [Lw,Lm,Lt,Lo,Ln,allLen,h4,w3,lP,lL,mem_encPs,most,big1,big2,hh]
     (first | refine Gd.dec (fun h5=>?_) (fun h5=>?_) | refine Gd.intro (fun h5=>?_) (fun h5=>?_)) <;> simp (maxSteps:=999999) (disch:=first|exact {}|omega|simp) [Lw,Lm,Lt,Lo,Ln,allLen,h5]
     ·obtain ⟨g1,g2,g3⟩:=gk h5
      refine CallK.of (c165 (nxt ps k) (nth ps k) hq hp (by omega) (by omega)) (by first | exact .inl rfl | exact .inr (by simp)) (by simp) ?_
      simp (maxSteps:=999999) (disch:=first|exact {}|omega|simp) [Lw,Lm,Lt,Lo,Ln,allLen]
      refine CallK.of (c164 _ (hq.minus hp) (by omega) (by omega)) (by first | exact .inl rfl | exact .inr (by simp)) (by simp) ?_
      simp (maxSteps:=999999) (disch:=first|exact {}|omega|simp) [Lw,Lm,Lt,Lo,Ln,allLen]
      refine CallK.of (c174 (nth ps k) (dirR (pminus (nxt ps k) (nth ps k))) hp (by omega) (by omega) (by omega) (by omega)) (by first | exact .inl rfl | exact .inr (by simp)) (by simp) ?_
      rw [thru_eq g1]
      simp (maxSteps:=999999) (disch:=first|exact {}|omega|simp) [Lw,Lm,Lt,Lo,Ln,allLen,lP,lL]
      refine CallK.of (c82 (sideL (nth ps k) (nxt ps k)) l g3 hl (by omega) (by omega) (sideL_dir _ _).1 (sideL_dir _ _).2 h0 h1 g2) (by first | exact .inl rfl | exact .inr (by simp)) (by simp) ?_
      simp (maxSteps:=999999) (disch:=first|exact {}|omega|simp) [Lw,Lm,Lt,Lo,Ln,allLen,lP,lL,mem_encPs,most,big1,big2,big3,big4]
      have hcut:cutN l s ps (k + 1) = cutN l s ps k ++ cutF l s (nth ps k) (nxt ps k):=rfl
      simp only [cutF,hA,hB,h4,h5,hv,if_true,if_false,List.nil_append,List.append_nil,List.append_assoc,List.cons_append] at hcut
      generalize meetP (sideL (nth ps k) (nxt ps k)) l = X at *
      generalize sideL (nth ps k) (nxt ps k) = Y at *
      (refine ⟨⟨(k + 1,.a),by omega,trivial⟩,by (simp; try omega), ?_⟩; constructor <;> (simp (maxSteps:=999999) (disch:=first|exact {}|omega|simp) [Lw,Lm,Lt,Lo,Ln,allLen,hcut,hA,hB,h4,h5,hv,hasN,hh,vaI2,vaH2,encPs,tk,tk2]) <;> (try omega))
     ·(refine ⟨⟨(k + 1,.a),by omega,trivial⟩,by (simp; try omega), ?_⟩; constructor <;> (simp (maxSteps:=999999) (disch:=first|exact {}|omega|simp) [Lw,Lm,Lt,Lo,Ln,allLen,cutN,cutF,hA,hB,h4,h5,hv,hasN,hh,vaI2,vaH2,encPs,tk,tk2]) <;> (try omega))
    ·have h40:¬ 0 < A:=by omega
     simp (maxSteps:=999999) (disch:=first|exact {}|omega|simp) [Lw,Lm,Lt,Lo,Ln,allLen,h4,w3,lP,lL,hh]
     (first | refine Gd.dec (fun h5=>?_) (fun h5=>?_) | refine Gd.intro (fun h5=>?_) (fun h5=>?_)) <;> simp (maxSteps:=999999) (disch:=first|exact {}|omega|simp) [Lw,Lm,Lt,Lo,Ln,allLen,h5]
     ·obtain ⟨g1,g2,g3⟩:=gk h5
      refine CallK.of (c165 (nxt ps k) (nth ps k) hq hp (by omega) (by omega)) (by first | exact .inl rfl | exact .inr (by simp)) (by simp) ?_
      simp (maxSteps:=999999) (disch:=first|exact {}|omega|simp) [Lw,Lm,Lt,Lo,Ln,allLen]
      refine CallK.of (c164 _ (hq.minus hp) (by omega) (by omega)) (by first | exact .inl rfl | exact .inr (by simp)) (by simp) ?_
      simp (maxSteps:=999999) (disch:=first|exact {}|omega|simp) [Lw,Lm,Lt,Lo,Ln,allLen]
      refine CallK.of (c174 (nth ps k) (dirR (pminus (nxt ps k) (nth ps k))) hp (by omega) (by omega) (by omega) (by omega)) (by first | exact .inl rfl | exact .inr (by simp)) (by simp) ?_
      rw [thru_eq g1]
      simp (maxSteps:=999999) (disch:=first|exact {}|omega|simp) [Lw,Lm,Lt,Lo,Ln,allLen,lP,lL]
      refine CallK.of (c82 (sideL (nth ps k) (nxt ps k)) l g3 hl (by omega) (by omega) (sideL_dir _ _).1 (sideL_dir _ _).2 h0 h1 g2) (by first | exact .inl rfl | exact .inr (by simp)) (by simp) ?_
      simp (maxSteps:=999999) (disch:=first|exact {}|omega|simp) [Lw,Lm,Lt,Lo,Ln,allLen,lP,lL,mem_encPs,most,big1,big2,big3,big4]
      have hcut:cutN l s ps (k + 1) = cutN l s ps k ++ cutF l s (nth ps k) (nxt ps k):=rfl
      simp only [cutF,hA,hB,h4,h5,hv,if_true,if_false,List.nil_append,List.append_nil,List.append_assoc,List.cons_append] at hcut
      generalize meetP (sideL (nth ps k) (nxt ps k)) l = X at *
      generalize sideL (nth ps k) (nxt ps k) = Y at *
      (refine ⟨⟨(k + 1,.a),by omega,trivial⟩,by (simp; try omega), ?_⟩; constructor <;> (simp (maxSteps:=999999) (disch:=first|exact {}|omega|simp) [Lw,Lm,Lt,Lo,Ln,allLen,hcut,hA,hB,h4,h5,hv,hasN,hh,vaI2,vaH2,encPs,tk,tk2]) <;> (try omega))
     ·(refine ⟨⟨(k + 1,.a),by omega,trivial⟩,by (simp; try omega), ?_⟩; constructor <;> (simp (maxSteps:=999999) (disch:=first|exact {}|omega|simp) [Lw,Lm,Lt,Lo,Ln,allLen,cutN,cutF,hA,hB,h4,h5,h40,hv,hasN,hh,vaI2,vaH2,encPs,tk,tk2]) <;> (try omega))
   ·(first | refine Gd.dec (fun h4=>?_) (fun h4=>?_) | refine Gd.intro (fun h4=>?_) (fun h4=>?_)) <;> simp (maxSteps:=999999) (disch:=first|exact {}|omega|simp) [Lw,Lm,Lt,Lo,Ln,allLen,h4]
    ·simp (maxSteps:=999999) (disch:=first|exact {}|omega|simp) [Lw,Lm,Lt,Lo,Ln,allLen,h4,w3,lP,lL,mem_encPs,most,big1,big2,hh]
     (first | refine Gd.dec (fun h5=>?_) (fun h5=>?_) | refine Gd.intro (fun h5=>?_) (fun h5=>?_)) <;> simp (maxSteps:=999999) (disch:=first|exact {}|omega|simp) [Lw,Lm,Lt,Lo,Ln,allLen,h5]
     ·obtain ⟨g1,g2,g3⟩:=gk h5
      refine CallK.of (c165 (nxt ps k) (nth ps k) hq hp (by omega) (by omega)) (by first | exact .inl rfl | exact .inr (by simp)) (by simp) ?_
      simp (maxSteps:=999999) (disch:=first|exact {}|omega|simp) [Lw,Lm,Lt,Lo,Ln,allLen]
      refine CallK.of (c164 _ (hq.minus hp) (by omega) (by omega)) (by first | exact .inl rfl | exact .inr (by simp)) (by simp) ?_
      simp (maxSteps:=999999) (disch:=first|exact {}|omega|simp) [Lw,Lm,Lt,Lo,Ln,allLen]
      refine CallK.of (c174 (nth ps k) (dirR (pminus (nxt ps k) (nth ps k))) hp (by omega) (by omega) (by omega) (by omega)) (by first | exact .inl rfl | exact .inr (by simp)) (by simp) ?_
      rw [thru_eq g1]
      simp (maxSteps:=999999) (disch:=first|exact {}|omega|simp) [Lw,Lm,Lt,Lo,Ln,allLen,lP,lL]
      refine CallK.of (c82 (sideL (nth ps k) (nxt ps k)) l g3 hl (by omega) (by omega) (sideL_dir _ _).1 (sideL_dir _ _).2 h0 h1 g2) (by first | exact .inl rfl | exact .inr (by simp)) (by simp) ?_
      simp (maxSteps:=999999) (disch:=first|exact {}|omega|simp) [Lw,Lm,Lt,Lo,Ln,allLen,lP,lL,mem_encPs,most,big1,big2,big3,big4]
      have hcut:cutN l s ps (k + 1) = cutN l s ps k ++ cutF l s (nth ps k) (nxt ps k):=rfl
      simp only [cutF,hA,hB,h4,h5,hv,if_true,if_false,List.nil_append,List.append_nil,List.append_assoc,List.cons_append] at hcut
      generalize meetP (sideL (nth ps k) (nxt ps k)) l = X at *
      generalize sideL (nth ps k) (nxt ps k) = Y at *
      (refine ⟨⟨(k + 1,.a),by omega,trivial⟩,by (simp; try omega), ?_⟩; constructor <;> (simp (maxSteps:=999999) (disch:=first|exact {}|omega|simp) [Lw,Lm,Lt,Lo,Ln,allLen,hcut,hA,hB,h4,h5,hv,hasN,hh,vaI2,vaH2,encPs,tk,tk2]) <;> (try omega))
     ·(refine ⟨⟨(k + 1,.a),by omega,trivial⟩,by (simp; try omega), ?_⟩; constructor <;> (simp (maxSteps:=999999) (disch:=first|exact {}|omega|simp) [Lw,Lm,Lt,Lo,Ln,allLen,cutN,cutF,hA,hB,h4,h5,hv,hasN,hh,vaI2,vaH2,encPs,tk,tk2]) <;> (try omega))
    ·have h40:¬ 0 < A:=by omega
     simp (maxSteps:=999999) (disch:=first|exact {}|omega|simp) [Lw,Lm,Lt,Lo,Ln,allLen,h4,w3,lP,lL,hh]
     (first | refine Gd.dec (fun h5=>?_) (fun h5=>?_) | refine Gd.intro (fun h5=>?_) (fun h5=>?_)) <;> simp (maxSteps:=999999) (disch:=first|exact {}|omega|simp) [Lw,Lm,Lt,Lo,Ln,allLen,h5]
     ·obtain ⟨g1,g2,g3⟩:=gk h5
      refine CallK.of (c165 (nxt ps k) (nth ps k) hq hp (by omega) (by omega)) (by first | exact .inl rfl | exact .inr (by simp)) (by simp) ?_
      simp (maxSteps:=999999) (disch:=first|exact {}|omega|simp) [Lw,Lm,Lt,Lo,Ln,allLen]
      refine CallK.of (c164 _ (hq.minus hp) (by omega) (by omega)) (by first | exact .inl rfl | exact .inr (by simp)) (by simp) ?_
      simp (maxSteps:=999999) (disch:=first|exact {}|omega|simp) [Lw,Lm,Lt,Lo,Ln,allLen]
      refine CallK.of (c174 (nth ps k) (dirR (pminus (nxt ps k) (nth ps k))) hp (by omega) (by omega) (by omega) (by omega)) (by first | exact .inl rfl | exact .inr (by simp)) (by simp) ?_
      rw [thru_eq g1]
      simp (maxSteps:=999999) (disch:=first|exact {}|omega|simp) [Lw,Lm,Lt,Lo,Ln,allLen,lP,lL]
      refine CallK.of (c82 (sideL (nth ps k) (nxt ps k)) l g3 hl (by omega) (by omega) (sideL_dir _ _).1 (sideL_dir _ _).2 h0 h1 g2) (by first | exact .inl rfl | exact .inr (by simp)) (by simp) ?_
      simp (maxSteps:=999999) (disch:=first|exact {}|omega|simp) [Lw,Lm,Lt,Lo,Ln,allLen,lP,lL,mem_encPs,most,big1,big2,big3,big4]
      have hcut:cutN l s ps (k + 1) = cutN l s ps k ++ cutF l s (nth ps k) (nxt ps k):=rfl
      simp only [cutF,hA,hB,h4,h5,hv,if_true,if_false,List.nil_append,List.append_nil,List.append_assoc,List.cons_append] at hcut
      generalize meetP (sideL (nth ps k) (nxt ps k)) l = X at *
      generalize sideL (nth ps k) (nxt ps k) = Y at *
      (refine ⟨⟨(k + 1,.a),by omega,trivial⟩,by (simp; try omega), ?_⟩; constructor <;> (simp (maxSteps:=999999) (disch:=first|exact {}|omega|simp) [Lw,Lm,Lt,Lo,Ln,allLen,hcut,hA,hB,h4,h5,hv,hasN,hh,vaI2,vaH2,encPs,tk,tk2]) <;> (try omega))
     ·(refine ⟨⟨(k + 1,.a),by omega,trivial⟩,by (simp; try omega), ?_⟩; constructor <;> (simp (maxSteps:=999999) (disch:=first|exact {}|omega|simp) [Lw,Lm,Lt,Lo,Ln,allLen,cutN,cutF,hA,hB,h4,h5,h40,hv,hasN,hh,vaI2,vaH2,encPs,tk,tk2]) <;> (try omega))
  | b =>
   simp only [vaOk] at hv
   simp (maxSteps:=999999) (disch:=first|exact {}|omega|simp) [Lw,Lm,Lt,Lo,Ln,allLen,hlt,encPs_get hlt,vaI2,vaH2,hne,rm,hm0,hm1,hmod,eq2,lP,lL]
   refine CallK.of (c1) (by first | exact .inl rfl | exact .inr (by simp)) (by simp) ?_
   simp (maxSteps:=999999) (disch:=first|exact {}|omega|simp) [Lw,Lm,Lt,Lo,Ln,allLen,hlt,encPs_get hlt,vaI2,vaH2,hne,rm,hm0,hm1,hmod,eq2,lP,lL,w1,hA]
   refine CallK.of (c2) (by first | exact .inl rfl | exact .inr (by simp)) (by simp) ?_
   simp (maxSteps:=999999) (disch:=first|exact {}|omega|simp) [Lw,Lm,Lt,Lo,Ln,allLen,hlt,encPs_get hlt,vaI2,vaH2,hne,rm,hm0,hm1,hmod,eq2,lP,lL,w2,hA,hB]
   cases hh:hasN l s ps k
   ·(first | refine Gd.dec (fun h4=>?_) (fun h4=>?_) | refine Gd.intro (fun h4=>?_) (fun h4=>?_)) <;> simp (maxSteps:=999999) (disch:=first|exact {}|omega|simp) [Lw,Lm,Lt,Lo,Ln,allLen,h4]
    ·simp (maxSteps:=999999) (disch:=first|exact {}|omega|simp) [Lw,Lm,Lt,Lo,Ln,allLen,h4,w3,lP,lL,mem_encPs,most,big1,big2,hh]
     (first | refine Gd.dec (fun h5=>?_) (fun h5=>?_) | refine Gd.intro (fun h5=>?_) (fun h5=>?_)) <;> simp (maxSteps:=999999) (disch:=first|exact {}|omega|simp) [Lw,Lm,Lt,Lo,Ln,allLen,h5]
     ·obtain ⟨g1,g2,g3⟩:=gk h5
      refine CallK.of (c165 (nxt ps k) (nth ps k) hq hp (by omega) (by omega)) (by first | exact .inl rfl | exact .inr (by simp)) (by simp) ?_
      simp (maxSteps:=999999) (disch:=first|exact {}|omega|simp) [Lw,Lm,Lt,Lo,Ln,allLen]
      refine CallK.of (c164 _ (hq.minus hp) (by omega) (by omega)) (by first | exact .inl rfl | exact .inr (by simp)) (by simp) ?_
      simp (maxSteps:=999999) (disch:=first|exact {}|omega|simp) [Lw,Lm,Lt,Lo,Ln,allLen]
      refine CallK.of (c174 (nth ps k) (dirR (pminus (nxt ps k) (nth ps k))) hp (by omega) (by omega) (by omega) (by omega)) (by first | exact .inl rfl | exact .inr (by simp)) (by simp) ?_
      rw [thru_eq g1]
      simp (maxSteps:=999999) (disch:=first|exact {}|omega|simp) [Lw,Lm,Lt,Lo,Ln,allLen,lP,lL]
      refine CallK.of (c82 (sideL (nth ps k) (nxt ps k)) l g3 hl (by omega) (by omega) (sideL_dir _ _).1 (sideL_dir _ _).2 h0 h1 g2) (by first | exact .inl rfl | exact .inr (by simp)) (by simp) ?_
      simp (maxSteps:=999999) (disch:=first|exact {}|omega|simp) [Lw,Lm,Lt,Lo,Ln,allLen,lP,lL,mem_encPs,most,big1,big2,big3,big4]
      have hcut:cutN l s ps (k + 1) = cutN l s ps k ++ cutF l s (nth ps k) (nxt ps k):=rfl
      simp only [cutF,hA,hB,h4,h5,hv,if_true,if_false,List.nil_append,List.append_nil,List.append_assoc,List.cons_append] at hcut
      generalize meetP (sideL (nth ps k) (nxt ps k)) l = X at *
      generalize sideL (nth ps k) (nxt ps k) = Y at *
      (refine ⟨⟨(k + 1,.b),by omega,trivial⟩,by (simp; try omega), ?_⟩; constructor <;> (simp (maxSteps:=999999) (disch:=first|exact {}|omega|simp) [Lw,Lm,Lt,Lo,Ln,allLen,hcut,hA,hB,h4,h5,hv,hasN,hh,vaI2,vaH2,encPs,tk,tk2]) <;> (try omega))
     ·(refine ⟨⟨(k + 1,.b),by omega,trivial⟩,by (simp; try omega), ?_⟩; constructor <;> (simp (maxSteps:=999999) (disch:=first|exact {}|omega|simp) [Lw,Lm,Lt,Lo,Ln,allLen,cutN,cutF,hA,hB,h4,h5,hv,hasN,hh,vaI2,vaH2,encPs,tk,tk2]) <;> (try omega))
    ·have h40:¬ 0 < A:=by omega
     simp (maxSteps:=999999) (disch:=first|exact {}|omega|simp) [Lw,Lm,Lt,Lo,Ln,allLen,h4,w3,lP,lL,hh]
     (first | refine Gd.dec (fun h5=>?_) (fun h5=>?_) | refine Gd.intro (fun h5=>?_) (fun h5=>?_)) <;> simp (maxSteps:=999999) (disch:=first|exact {}|omega|simp) [Lw,Lm,Lt,Lo,Ln,allLen,h5]
     ·obtain ⟨g1,g2,g3⟩:=gk h5
      refine CallK.of (c165 (nxt ps k) (nth ps k) hq hp (by omega) (by omega)) (by first | exact .inl rfl | exact .inr (by simp)) (by simp) ?_
      simp (maxSteps:=999999) (disch:=first|exact {}|omega|simp) [Lw,Lm,Lt,Lo,Ln,allLen]
      refine CallK.of (c164 _ (hq.minus hp) (by omega) (by omega)) (by first | exact .inl rfl | exact .inr (by simp)) (by simp) ?_
      simp (maxSteps:=999999) (disch:=first|exact {}|omega|simp) [Lw,Lm,Lt,Lo,Ln,allLen]
      refine CallK.of (c174 (nth ps k) (dirR (pminus (nxt ps k) (nth ps k))) hp (by omega) (by omega) (by omega) (by omega)) (by first | exact .inl rfl | exact .inr (by simp)) (by simp) ?_
      rw [thru_eq g1]
      simp (maxSteps:=999999) (disch:=first|exact {}|omega|simp) [Lw,Lm,Lt,Lo,Ln,allLen,lP,lL]
      refine CallK.of (c82 (sideL (nth ps k) (nxt ps k)) l g3 hl (by omega) (by omega) (sideL_dir _ _).1 (sideL_dir _ _).2 h0 h1 g2) (by first | exact .inl rfl | exact .inr (by simp)) (by simp) ?_
      simp (maxSteps:=999999) (disch:=first|exact {}|omega|simp) [Lw,Lm,Lt,Lo,Ln,allLen,lP,lL,mem_encPs,most,big1,big2,big3,big4]
      have hcut:cutN l s ps (k + 1) = cutN l s ps k ++ cutF l s (nth ps k) (nxt ps k):=rfl
      simp only [cutF,hA,hB,h4,h5,hv,if_true,if_false,List.nil_append,List.append_nil,List.append_assoc,List.cons_append] at hcut
      generalize meetP (sideL (nth ps k) (nxt ps k)) l = X at *
      generalize sideL (nth ps k) (nxt ps k) = Y at *
      (refine ⟨⟨(k + 1,.b),by omega,trivial⟩,by (simp; try omega), ?_⟩; constructor <;> (simp (maxSteps:=999999) (disch:=first|exact {}|omega|simp) [Lw,Lm,Lt,Lo,Ln,allLen,hcut,hA,hB,h4,h5,hv,hasN,hh,vaI2,vaH2,encPs,tk,tk2]) <;> (try omega))
     ·(refine ⟨⟨(k + 1,.b),by omega,trivial⟩,by (simp; try omega), ?_⟩; constructor <;> (simp (maxSteps:=999999) (disch:=first|exact {}|omega|simp) [Lw,Lm,Lt,Lo,Ln,allLen,cutN,cutF,hA,hB,h4,h5,h40,hv,hasN,hh,vaI2,vaH2,encPs,tk,tk2]) <;> (try omega))
   ·(first | refine Gd.dec (fun h4=>?_) (fun h4=>?_) | refine Gd.intro (fun h4=>?_) (fun h4=>?_)) <;> simp (maxSteps:=999999) (disch:=first|exact {}|omega|simp) [Lw,Lm,Lt,Lo,Ln,allLen,h4]
    ·simp (maxSteps:=999999) (disch:=first|exact {}|omega|simp) [Lw,Lm,Lt,Lo,Ln,allLen,h4,w3,lP,lL,mem_encPs,most,big1,big2,hh]
     (first | refine Gd.dec (fun h5=>?_) (fun h5=>?_) | refine Gd.intro (fun h5=>?_) (fun h5=>?_)) <;> simp (maxSteps:=999999) (disch:=first|exact {}|omega|simp) [Lw,Lm,Lt,Lo,Ln,allLen,h5]
     ·obtain ⟨g1,g2,g3⟩:=gk h5
      refine CallK.of (c165 (nxt ps k) (nth ps k) hq hp (by omega) (by omega)) (by first | exact .inl rfl | exact .inr (by simp)) (by simp) ?_
      simp (maxSteps:=999999) (disch:=first|exact {}|omega|simp) [Lw,Lm,Lt,Lo,Ln,allLen]
      refine CallK.of (c164 _ (hq.minus hp) (by omega) (by omega)) (by first | exact .inl rfl | exact .inr (by simp)) (by simp) ?_
      simp (maxSteps:=999999) (disch:=first|exact {}|omega|simp) [Lw,Lm,Lt,Lo,Ln,allLen]
      refine CallK.of (c174 (nth ps k) (dirR (pminus (nxt ps k) (nth ps k))) hp (by omega) (by omega) (by omega) (by omega)) (by first | exact .inl rfl | exact .inr (by simp)) (by simp) ?_
      rw [thru_eq g1]
      simp (maxSteps:=999999) (disch:=first|exact {}|omega|simp) [Lw,Lm,Lt,Lo,Ln,allLen,lP,lL]
      refine CallK.of (c82 (sideL (nth ps k) (nxt ps k)) l g3 hl (by omega) (by omega) (sideL_dir _ _).1 (sideL_dir _ _).2 h0 h1 g2) (by first | exact .inl rfl | exact .inr (by simp)) (by simp) ?_
      simp (maxSteps:=999999) (disch:=first|exact {}|omega|simp) [Lw,Lm,Lt,Lo,Ln,allLen,lP,lL,mem_encPs,most,big1,big2,big3,big4]
      have hcut:cutN l s ps (k + 1) = cutN l s ps k ++ cutF l s (nth ps k) (nxt ps k):=rfl
      simp only [cutF,hA,hB,h4,h5,hv,if_true,if_false,List.nil_append,List.append_nil,List.append_assoc,List.cons_append] at hcut
      generalize meetP (sideL (nth ps k) (nxt ps k)) l = X at *
      generalize sideL (nth ps k) (nxt ps k) = Y at *
      (refine ⟨⟨(k + 1,.b),by omega,trivial⟩,by (simp; try omega), ?_⟩; constructor <;> (simp (maxSteps:=999999) (disch:=first|exact {}|omega|simp) [Lw,Lm,Lt,Lo,Ln,allLen,hcut,hA,hB,h4,h5,hv,hasN,hh,vaI2,vaH2,encPs,tk,tk2]) <;> (try omega))
     ·(refine ⟨⟨(k + 1,.b),by omega,trivial⟩,by (simp; try omega), ?_⟩; constructor <;> (simp (maxSteps:=999999) (disch:=first|exact {}|omega|simp) [Lw,Lm,Lt,Lo,Ln,allLen,cutN,cutF,hA,hB,h4,h5,hv,hasN,hh,vaI2,vaH2,encPs,tk,tk2]) <;> (try omega))
    ·have h40:¬ 0 < A:=by omega
     simp (maxSteps:=999999) (disch:=first|exact {}|omega|simp) [Lw,Lm,Lt,Lo,Ln,allLen,h4,w3,lP,lL,hh]
     (first | refine Gd.dec (fun h5=>?_) (fun h5=>?_) | refine Gd.intro (fun h5=>?_) (fun h5=>?_)) <;> simp (maxSteps:=999999) (disch:=first|exact {}|omega|simp) [Lw,Lm,Lt,Lo,Ln,allLen,h5]
     ·obtain ⟨g1,g2,g3⟩:=gk h5
      refine CallK.of (c165 (nxt ps k) (nth ps k) hq hp (by omega) (by omega)) (by first | exact .inl rfl | exact .inr (by simp)) (by simp) ?_
      simp (maxSteps:=999999) (disch:=first|exact {}|omega|simp) [Lw,Lm,Lt,Lo,Ln,allLen]
      refine CallK.of (c164 _ (hq.minus hp) (by omega) (by omega)) (by first | exact .inl rfl | exact .inr (by simp)) (by simp) ?_
      simp (maxSteps:=999999) (disch:=first|exact {}|omega|simp) [Lw,Lm,Lt,Lo,Ln,allLen]
      refine CallK.of (c174 (nth ps k) (dirR (pminus (nxt ps k) (nth ps k))) hp (by omega) (by omega) (by omega) (by omega)) (by first | exact .inl rfl | exact .inr (by simp)) (by simp) ?_
      rw [thru_eq g1]
      simp (maxSteps:=999999) (disch:=first|exact {}|omega|simp) [Lw,Lm,Lt,Lo,Ln,allLen,lP,lL]
      refine CallK.of (c82 (sideL (nth ps k) (nxt ps k)) l g3 hl (by omega) (by omega) (sideL_dir _ _).1 (sideL_dir _ _).2 h0 h1 g2) (by first | exact .inl rfl | exact .inr (by simp)) (by simp) ?_
      simp (maxSteps:=999999) (disch:=first|exact {}|omega|simp) [Lw,Lm,Lt,Lo,Ln,allLen,lP,lL,mem_encPs,most,big1,big2,big3,big4]
      have hcut:cutN l s ps (k + 1) = cutN l s ps k ++ cutF l s (nth ps k) (nxt ps k):=rfl
      simp only [cutF,hA,hB,h4,h5,hv,if_true,if_false,List.nil_append,List.append_nil,List.append_assoc,List.cons_append] at hcut
      generalize meetP (sideL (nth ps k) (nxt ps k)) l = X at *
      generalize sideL (nth ps k) (nxt ps k) = Y at *
      (refine ⟨⟨(k + 1,.b),by omega,trivial⟩,by (simp; try omega), ?_⟩; constructor <;> (simp (maxSteps:=999999) (disch:=first|exact {}|omega|simp) [Lw,Lm,Lt,Lo,Ln,allLen,hcut,hA,hB,h4,h5,hv,hasN,hh,vaI2,vaH2,encPs,tk,tk2]) <;> (try omega))
     ·(refine ⟨⟨(k + 1,.b),by omega,trivial⟩,by (simp; try omega), ?_⟩; constructor <;> (simp (maxSteps:=999999) (disch:=first|exact {}|omega|simp) [Lw,Lm,Lt,Lo,Ln,allLen,cutN,cutF,hA,hB,h4,h5,h40,hv,hasN,hh,vaI2,vaH2,encPs,tk,tk2]) <;> (try omega))
 ·obtain rfl:k = ps.length:=by omega
  have htk:List.take (cutN l s ps ps.length).length (encPs (cutN l s ps ps.length)) = encPs (cutN l s ps ps.length):=List.take_of_length_le (by simp)
  cases v with
  | n =>
   simp only [vaOk] at hv
   cases hh:hasN l s ps ps.length
   ·simp (maxSteps:=999999) (disch:=first|exact {}|omega|simp) [Lw,Lm,Lt,Lo,Ln,allLen,vaI2,vaH2,hh,halfR,encPs]
   ·simp (maxSteps:=999999) (disch:=first|exact {}|omega|simp) [Lw,Lm,Lt,Lo,Ln,allLen,vaI2,vaH2,hh,halfR,hv,encPs]
  | a =>
   cases hh:hasN l s ps ps.length
   ·simp (maxSteps:=999999) (disch:=first|exact {}|omega|simp) [Lw,Lm,Lt,Lo,Ln,allLen,vaI2,vaH2,hh,halfR,encPs]
   ·simp (maxSteps:=999999) (disch:=first|exact {}|omega|simp) [Lw,Lm,Lt,Lo,Ln,allLen,vaI2,vaH2,hh,halfR,htk]
  | b =>
   cases hh:hasN l s ps ps.length
   ·simp (maxSteps:=999999) (disch:=first|exact {}|omega|simp) [Lw,Lm,Lt,Lo,Ln,allLen,vaI2,vaH2,hh,halfR,encPs]
   ·simp (maxSteps:=999999) (disch:=first|exact {}|omega|simp) [Lw,Lm,Lt,Lo,Ln,allLen,vaI2,vaH2,hh,halfR,htk]
end Go.Vai
