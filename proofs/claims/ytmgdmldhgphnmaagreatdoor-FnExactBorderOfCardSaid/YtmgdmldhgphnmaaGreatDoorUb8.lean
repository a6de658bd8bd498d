/- Texts of this claim: Zp4. -/
import Derived.Test.YtmgdmldhgphnmaaGreatDoorUb7
set_option linter.unusedVariables false
set_option linter.unusedSimpArgs false
set_option maxHeartbeats 4000000
namespace Go.Vai
def sd (l:Li) (p:Pt):Int:=nsign (nsub (ndot (vec (l.dir + 4)) p) l.off)
theorem sgn_range (n:Int):sgn n = -1 ∨ sgn n = 0 ∨ sgn n = 1:=by
 unfold sgn; split; · simp
 ·split <;> simp
theorem nsign_range (x:Nu):nsign x = -1 ∨ nsign x = 0 ∨ nsign x = 1:=by
 unfold nsign
 split
 ·exact sgn_range _
 ·split <;> exact sgn_range _
theorem sd_range (l:Li) (p:Pt):sd l p = -1 ∨ sd l p = 0 ∨ sd l p = 1:=nsign_range _
def nxt (ps:List Pt) (k:Nat):Pt:=nth ps ((k + 1) % ps.length)
def cutF (l:Li) (s:Int) (p q:Pt):List Pt :=
 (if 0 ≤ s * sd l p then [p] else []) ++ (if s * sd l p * (s * sd l q) < 0 then [meetP (sideL p q) l] else [])
def cutN (l:Li) (s:Int) (ps:List Pt):Nat → List Pt
 | 0=>[]
 | k + 1=>cutN l s ps k ++ cutF l s (nth ps k) (nxt ps k)
theorem cutN_len (l:Li) (s:Int) (ps:List Pt):∀ k,(cutN l s ps k).length ≤ 2 * k
 | 0=>by simp [cutN]
 | k + 1=>by
  have:=cutN_len l s ps k
  have h2:(cutF l s (nth ps k) (nxt ps k)).length ≤ 2:=by unfold cutF; split <;> split <;> simp
  simp [cutN]; omega
def hasN (l:Li) (s:Int) (ps:List Pt):Nat → Bool
 | 0=>false
 | k + 1=>hasN l s ps k || decide (0 < s * sd l (nth ps k))
def partR (l:Li) (s:Int) (ps:List Pt):List Pt:=if hasN l s ps ps.length = true then rot0 (cutN l s ps ps.length) else []
def Good (K M:Nat) (l:Li) (s:Int) (ps:List Pt):Prop :=
 ∀ k,k < ps.length → s * sd l (nth ps k) * (s * sd l (nxt ps k)) < 0 → 0 ≤ dirR (pminus (nxt ps k) (nth ps k)) ∧ (sideL (nth ps k) (nxt ps k)).dir ≠ l.dir ∧ NB K M (sideL (nth ps k) (nxt ps k)).off
theorem sideL_dir (p q:Pt):0 ≤ (sideL p q).dir ∧ (sideL p q).dir ≤ 7:=by simp [sideL,lat]; omega
theorem cutN_PB {K M M':Nat} {l:Li} {s:Int} {ps:List Pt} (h:∀ p ∈ ps,PB (K + 3) M' p) (hl:NB K M l.off) (h0:0 ≤ l.dir) (h1:l.dir ≤ 7) (hg:Good K M l s ps) (hM:576 * M ≤ M') :
  ∀ k,k ≤ ps.length → ∀ p ∈ cutN l s ps k,PB (K + 3) M' p
 | 0,_=>by simp [cutN]
 | k + 1,hk=>by
  intro p hp
  simp only [cutN,List.mem_append] at hp
  rcases hp with hp | hp
  ·exact cutN_PB h hl h0 h1 hg hM k (by omega) p hp
  ·simp only [cutF,List.mem_append] at hp
   rcases hp with hp | hp
   ·split at hp
    ·obtain rfl:=List.mem_singleton.1 hp; exact h _ (nth_mem (by omega))
    ·simp at hp
   ·split at hp
    ·rename_i hx
     obtain rfl:=List.mem_singleton.1 hp
     obtain ⟨g1,g2,g3⟩:=hg k (by omega) hx
     exact (meet_PB g3 hl (sideL_dir _ _).1 (sideL_dir _ _).2 h0 h1 g2).mono hM
    ·simp at hp
inductive Va where
 | n | a | b
def vaI (v:Va) (l:List Pt):AV:=match v with
 | .n=>.esl
 | .a=>.own 48 0 l.length
 | .b=>.own 73 0 l.length
def vaH (v:Va) (l:List Pt):List (Nat × Obj):=match v with
 | .n=>[]
 | .a=>[(48,⟨6,encPs l⟩)]
 | .b=>[(73,⟨6,encPs l⟩)]
def vaOk (v:Va) (l:List Pt):Prop:=match v with
 | .n=>l = []
 | _=>True
theorem cside (l:Li) (p:Pt) {K M M':Nat} (h:PB K M p) (h':NB K M' l.off) (hK:K ≤ 60) (hM:6 * M + M' ≤ 4611686018427387904) (h0:0 ≤ l.dir) (h1:l.dir ≤ 7) :
  PC E 87 [.agg (encLi l),.agg (encP p)] [.i (.int .i64 (sd l p))]:=c87 l p h h' hK hM h0 (by omega)
theorem wr_s {s d:Int} (hs:s = 1 ∨ s = -1) (hd:d = -1 ∨ d = 0 ∨ d = 1):IntKind.i64.wrap (s * d) = s * d:=by
 rcases hs with rfl | rfl <;> rcases hd with rfl | rfl | rfl <;> decide
theorem wr_ss {s d d':Int} (hs:s = 1 ∨ s = -1) (hd:d = -1 ∨ d = 0 ∨ d = 1) (hd':d' = -1 ∨ d' = 0 ∨ d' = 1):IntKind.i64.wrap (s * d * (s * d')) = s * d * (s * d'):=by
 rcases hs with rfl | rfl <;> rcases hd with rfl | rfl | rfl <;> rcases hd' with rfl | rfl | rfl <;> decide
theorem c302 (ps:List Pt) (l:Li) (s:Int) {K M M':Nat} (h:∀ p ∈ ps,PB (K + 3) M' p) (hl:NB K M l.off) (h0:0 ≤ l.dir) (h1:l.dir ≤ 7) (hg:Good K M l s ps) (hM:576 * M ≤ M') (hK:K ≤ 40)
  (hM':16 * M' ≤ 4611686018427387904) (hs:s = 1 ∨ s = -1) (hn:((2 * ps.length:Nat):Int) ≤ 1099511627776) :
  PC E 302 [.i (.sl (encPs ps)),.agg (encLi l),.i (.int .i64 s)] [.own 6 (encPs (partR l s ps))]:=by
 have hl3:NB (K + 3) (8 * M) l.off:=by
  have:=hl.up (K':=K + 3) (by omega)
  have e:K + 3 - K = 3:=by omega
  rw [e] at this; exact this.mono (by omega)
 refine PC_start hE Proofs.Tryz.func302 rfl rfl Proofs.Tryz.ntmps302 (by kernel_rfl) (by kernel_rfl) (by simp) ?_
 simp (maxSteps:=999999) (disch:=first|exact {}|omega|simp) [Lw,Lm,Lt,Lo,Ln,allLen]
 refine XL.by hE (ι:={ k:Nat × Va // k.1 ≤ ps.length ∧ vaOk k.2 (cutN l s ps k.1) }) (fun k=>⟨[(0,.i (.sl (encPs ps))),(2,.i (.int .i64 s)),(4,.ptr 4 0 0),(7,vaI k.1.2 (cutN l s ps k.1.1)),(8,.i (.bool (hasN l s ps k.1.1))),(18,.i (.sl (encPs ps))),(19,.i (.int .i64 ps.length)),(20,.i (.int .i64 k.1.1))],(4,⟨4,[encLi l]⟩) :: vaH k.1.2 (cutN l s ps k.1.1)⟩)
  (fun k=>ps.length - k.1.1) ⟨(0,.n),Nat.zero_le _,rfl⟩ ⟨by simp [vaI,hasN],by simp [vaH],by simp [vaI]⟩ (by kernel_rfl) ?_
 rintro ⟨⟨k,v⟩,hk,hv⟩
 simp only at hk hv
 by_cases hlt:k < ps.length
 ·have hmod:(k + 1) % ps.length < ps.length:=Nat.mod_lt _ (by omega)
  have hp:=h _ (nth_mem hlt)
  have hq:PB (K + 3) M' (nxt ps k):=h _ (nth_mem hmod)
  have hcl:=cutN_len l s ps k
  have hr1:=sd_range l (nth ps k)
  have hr2:=sd_range l (nxt ps k)
  have gk:=hg k hlt
  have eq2:(encPs ps)[(k + 1) % ps.length]? = some (encP (nxt ps k)):=encPs_get hmod
  have hne:¬ ps = []:=by rintro rfl; simp at hlt
  have rm:((k:Int) + 1).tmod (ps.length:Int) = (((k + 1) % ps.length:Nat):Int):=by
   rw [Int.tmod_eq_emod_of_nonneg (by omega)]; simp
  have hm0:¬ (((k:Int) + 1) % (ps.length:Int) < 0):=by have:=Int.emod_nonneg ((k:Int) + 1) (b:=(ps.length:Int)) (by omega); omega
  have hm1:(((k:Int) + 1) % (ps.length:Int)).toNat = (k + 1) % ps.length:=by
   have:((k:Int) + 1) % (ps.length:Int) = (((k + 1) % ps.length:Nat):Int):=by simp
   rw [this]; rfl
  have w1:=wr_s hs hr1
  have w2:=wr_s hs hr2
  have w3:=wr_ss hs hr1 hr2
  have c1:=cside l (nth ps k) hp hl3 (by omega) (by omega) h0 h1
  have c2:=cside l (nxt ps k) hq hl3 (by omega) (by omega) h0 h1
  generalize hA:s * sd l (nth ps k) = A at *
  generalize hB:s * sd l (nxt ps k) = B at *
  have lP:∀ p:Pt,(encP p).length = 6:=fun _=>rfl
  have lL:∀ l:Li,(encLi l).length = 4:=fun _=>rfl
  have tk:List.take (cutN l s ps k).length (List.map encP (cutN l s ps k)) = List.map encP (cutN l s ps k):=List.take_of_length_le (by simp)
  have tk2:∀ p:Pt,List.take ((cutN l s ps k).length + 1) (List.map encP (cutN l s ps k) ++ [encP p]) = List.map encP (cutN l s ps k) ++ [encP p]:=fun p=>List.take_of_length_le (by simp)
  have big1:((cutN l s ps k).length:Int) + 1 ≤ 140737488355328:=by omega
  have big2:(((cutN l s ps k).length:Int) + 1) * 48 ≤ 140737488355328:=by omega
  have big3:((cutN l s ps k).length:Int) + 1 + 1 ≤ 140737488355328:=by omega
  have big4:(((cutN l s ps k).length:Int) + 1 + 1) * 48 ≤ 140737488355328:=by omega
  cases v with
  | n =>
   simp only [vaOk] at hv
   simp (maxSteps:=999999) (disch:=first|exact {}|omega|simp) [Lw,Lm,Lt,Lo,Ln,allLen,hlt,encPs_get hlt,vaI,vaH,hne,rm,hm0,hm1,hmod,eq2,lP,lL]
   refine CallK.of (c1) (by first | exact .inl rfl | exact .inr (by simp)) (by simp) ?_
   simp (maxSteps:=999999) (disch:=first|exact {}|omega|simp) [Lw,Lm,Lt,Lo,Ln,allLen,hlt,encPs_get hlt,vaI,vaH,hne,rm,hm0,hm1,hmod,eq2,lP,lL,w1,hA]
   refine CallK.of (c2) (by first | exact .inl rfl | exact .inr (by simp)) (by simp) ?_
   simp (maxSteps:=999999) (disch:=first|exact {}|omega|simp) [Lw,Lm,Lt,Lo,Ln,allLen,hlt,encPs_get hlt,vaI,vaH,hne,rm,hm0,hm1,hmod,eq2,lP,lL,w2,hA,hB]
   cases hh:hasN l s ps k
   ·(first | refine Gd.dec (fun h4=>?_) (fun h4=>?_) | refine Gd.intro (fun h4=>?_) (fun h4=>?_)) <;> simp (maxSteps:=999999) (disch:=first|exact {}|omega|simp) [Lw,Lm,Lt,Lo,Ln,allLen,h4]
    ·simp (maxSteps:=999999) (disch:=first|exact {}|omega|simp) [Lw,Lm,Lt,Lo,Ln,allLen,h4,w3,lP,lL,mem_encPs,most,big1,big2]
     (first | refine Gd.dec (fun h5=>?_) (fun h5=>?_) | refine Gd.intro (fun h5=>?_) (fun h5=>?_)) <;> simp (maxSteps:=999999) (disch:=first|exact {}|omega|simp) [Lw,Lm,Lt,Lo,Ln,allLen,h5]
     ·obtain ⟨g1,g2,g3⟩:=gk h5
      refine CallK.of (c88 (nth ps k) (nxt ps k) hp hq (by omega) (by omega) g1) (by first | exact .inl rfl | exact .inr (by simp)) (by simp) ?_
      simp (maxSteps:=999999) (disch:=first|exact {}|omega|simp) [Lw,Lm,Lt,Lo,Ln,allLen,lP,lL]
      refine CallK.of (c89 (sideL (nth ps k) (nxt ps k)) l g3 hl (by omega) (by omega) (sideL_dir _ _).1 (sideL_dir _ _).2 h0 h1 g2) (by first | exact .inl rfl | exact .inr (by simp)) (by simp) ?_
      simp (maxSteps:=999999) (disch:=first|exact {}|omega|simp) [Lw,Lm,Lt,Lo,Ln,allLen,lP,lL,mem_encPs,most,big1,big2,big3,big4]
      have hcut:cutN l s ps (k + 1) = cutN l s ps k ++ cutF l s (nth ps k) (nxt ps k):=rfl
      simp only [cutF,hA,hB,h4,h5,hv,if_true,if_false,List.nil_append,List.append_nil,List.append_assoc,List.cons_append] at hcut
      generalize meetP (sideL (nth ps k) (nxt ps k)) l = X at *
      generalize sideL (nth ps k) (nxt ps k) = Y at *
      (refine ⟨⟨(k + 1,.a),by omega,trivial⟩,by (simp; try omega), ?_⟩; constructor <;> (simp (maxSteps:=999999) (disch:=first|exact {}|omega|simp) [Lw,Lm,Lt,Lo,Ln,allLen,hcut,hA,hB,h4,h5,hv,hasN,hh,vaI,vaH,encPs,tk,tk2]) <;> (try omega))
     ·(refine ⟨⟨(k + 1,.a),by omega,trivial⟩,by (simp; try omega), ?_⟩; constructor <;> (simp (maxSteps:=999999) (disch:=first|exact {}|omega|simp) [Lw,Lm,Lt,Lo,Ln,allLen,cutN,cutF,hA,hB,h4,h5,hv,hasN,hh,vaI,vaH,encPs,tk,tk2]) <;> (try omega))
    ·have h40:¬ 0 < A:=by omega
     simp (maxSteps:=999999) (disch:=first|exact {}|omega|simp) [Lw,Lm,Lt,Lo,Ln,allLen,h4,w3,lP,lL]
     (first | refine Gd.dec (fun h5=>?_) (fun h5=>?_) | refine Gd.intro (fun h5=>?_) (fun h5=>?_)) <;> simp (maxSteps:=999999) (disch:=first|exact {}|omega|simp) [Lw,Lm,Lt,Lo,Ln,allLen,h5]
     ·obtain ⟨g1,g2,g3⟩:=gk h5
      refine CallK.of (c88 (nth ps k) (nxt ps k) hp hq (by omega) (by omega) g1) (by first | exact .inl rfl | exact .inr (by simp)) (by simp) ?_
      simp (maxSteps:=999999) (disch:=first|exact {}|omega|simp) [Lw,Lm,Lt,Lo,Ln,allLen,lP,lL]
      refine CallK.of (c89 (sideL (nth ps k) (nxt ps k)) l g3 hl (by omega) (by omega) (sideL_dir _ _).1 (sideL_dir _ _).2 h0 h1 g2) (by first | exact .inl rfl | exact .inr (by simp)) (by simp) ?_
      simp (maxSteps:=999999) (disch:=first|exact {}|omega|simp) [Lw,Lm,Lt,Lo,Ln,allLen,lP,lL,mem_encPs,most,big1,big2,big3,big4]
      have hcut:cutN l s ps (k + 1) = cutN l s ps k ++ cutF l s (nth ps k) (nxt ps k):=rfl
      simp only [cutF,hA,hB,h4,h5,hv,if_true,if_false,List.nil_append,List.append_nil,List.append_assoc,List.cons_append] at hcut
      generalize meetP (sideL (nth ps k) (nxt ps k)) l = X at *
      generalize sideL (nth ps k) (nxt ps k) = Y at *
      (refine ⟨⟨(k + 1,.b),by omega,trivial⟩,by (simp; try omega), ?_⟩; constructor <;> (simp (maxSteps:=999999) (disch:=first|exact {}|omega|simp) [Lw,Lm,Lt,Lo,Ln,allLen,hcut,hA,hB,h4,h5,hv,hasN,hh,vaI,vaH,encPs,tk,tk2]) <;> (try omega))
     ·(refine ⟨⟨(k + 1,.n),by omega,by simp [vaOk,cutN,cutF,hA,hB,h4,h5,hv]⟩,by (simp; try omega), ?_⟩; constructor <;> (simp (maxSteps:=999999) (disch:=first|exact {}|omega|simp) [Lw,Lm,Lt,Lo,Ln,allLen,cutN,cutF,hA,hB,h4,h5,h40,hv,hasN,hh,vaI,vaH,encPs,tk,tk2]) <;> (try omega))
   ·(first | refine Gd.dec (fun h4=>?_) (fun h4=>?_) | refine Gd.intro (fun h4=>?_) (fun h4=>?_)) <;> simp (maxSteps:=999999) (disch:=first|exact {}|omega|simp) [Lw,Lm,Lt,Lo,Ln,allLen,h4]
    ·simp (maxSteps:=999999) (disch:=first|exact {}|omega|simp) [Lw,Lm,Lt,Lo,Ln,allLen,h4,w3,lP,lL,mem_encPs,most,big1,big2]
     (first | refine Gd.dec (fun h5=>?_) (fun h5=>?_) | refine Gd.intro (fun h5=>?_) (fun h5=>?_)) <;> simp (maxSteps:=999999) (disch:=first|exact {}|omega|simp) [Lw,Lm,Lt,Lo,Ln,allLen,h5]
     ·obtain ⟨g1,g2,g3⟩:=gk h5
      refine CallK.of (c88 (nth ps k) (nxt ps k) hp hq (by omega) (by omega) g1) (by first | exact .inl rfl | exact .inr (by simp)) (by simp) ?_
      simp (maxSteps:=999999) (disch:=first|exact {}|omega|simp) [Lw,Lm,Lt,Lo,Ln,allLen,lP,lL]
      refine CallK.of (c89 (sideL (nth ps k) (nxt ps k)) l g3 hl (by omega) (by omega) (sideL_dir _ _).1 (sideL_dir _ _).2 h0 h1 g2) (by first | exact .inl rfl | exact .inr (by simp)) (by simp) ?_
      simp (maxSteps:=999999) (disch:=first|exact {}|omega|simp) [Lw,Lm,Lt,Lo,Ln,allLen,lP,lL,mem_encPs,most,big1,big2,big3,big4]
      have hcut:cutN l s ps (k + 1) = cutN l s ps k ++ cutF l s (nth ps k) (nxt ps k):=rfl
      simp only [cutF,hA,hB,h4,h5,hv,if_true,if_false,List.nil_append,List.append_nil,List.append_assoc,List.cons_append] at hcut
      generalize meetP (sideL (nth ps k) (nxt ps k)) l = X at *
      generalize sideL (nth ps k) (nxt ps k) = Y at *
      (refine ⟨⟨(k + 1,.a),by omega,trivial⟩,by (simp; try omega), ?_⟩; constructor <;> (simp (maxSteps:=999999) (disch:=first|exact {}|omega|simp) [Lw,Lm,Lt,Lo,Ln,allLen,hcut,hA,hB,h4,h5,hv,hasN,hh,vaI,vaH,encPs,tk,tk2]) <;> (try omega))
     ·(refine ⟨⟨(k + 1,.a),by omega,trivial⟩,by (simp; try omega), ?_⟩; constructor <;> (simp (maxSteps:=999999) (disch:=first|exact {}|omega|simp) [Lw,Lm,Lt,Lo,Ln,allLen,cutN,cutF,hA,hB,h4,h5,hv,hasN,hh,vaI,vaH,encPs,tk,tk2]) <;> (try omega))
    ·have h40:¬ 0 < A:=by omega
     simp (maxSteps:=999999) (disch:=first|exact {}|omega|simp) [Lw,Lm,Lt,Lo,Ln,allLen,h4,w3,lP,lL]
     (first | refine Gd.dec (fun h5=>?_) (fun h5=>?_) | refine Gd.intro (fun h5=>?_) (fun h5=>?_)) <;> simp (maxSteps:=999999) (disch:=first|exact {}|omega|simp) [Lw,Lm,Lt,Lo,Ln,allLen,h5]
     ·obtain ⟨g1,g2,g3⟩:=gk h5
      refine CallK.of (c88 (nth ps k) (nxt ps k) hp hq (by omega) (by omega) g1) (by first | exact .inl rfl | exact .inr (by simp)) (by simp) ?_
      simp (maxSteps:=999999) (disch:=first|exact {}|omega|simp) [Lw,Lm,Lt,Lo,Ln,allLen,lP,lL]
      refine CallK.of (c89 (sideL (nth ps k) (nxt ps k)) l g3 hl (by omega) (by omega) (sideL_dir _ _).1 (sideL_dir _ _).2 h0 h1 g2) (by first | exact .inl rfl | exact .inr (by simp)) (by simp) ?_
      simp (maxSteps:=999999) (disch:=first|exact {}|omega|simp) [Lw,Lm,Lt,Lo,Ln,allLen,lP,lL,mem_encPs,most,big1,big2,big3,big4]
      have hcut:cutN l s ps (k + 1) = cutN l s ps k ++ cutF l s (nth ps k) (nxt ps k):=rfl
      simp only [cutF,hA,hB,h4,h5,hv,if_true,if_false,List.nil_append,List.append_nil,List.append_assoc,List.cons_append] at hcut
      generalize meetP (sideL (nth ps k) (nxt ps k)) l = X at *
      generalize sideL (nth ps k) (nxt ps k) = Y at *
      (refine ⟨⟨(k + 1,.b),by omega,trivial⟩,by (simp; try omega), ?_⟩; constructor <;> (simp (maxSteps:=999999) (disch:=first|exact {}|omega|simp) [Lw,Lm,Lt,Lo,Ln,allLen,hcut,hA,hB,h4,h5,hv,hasN,hh,vaI,vaH,encPs,tk,tk2]) <;> (try omega))
     ·(refine ⟨⟨(k + 1,.n),by omega,by simp [vaOk,cutN,cutF,hA,hB,h4,h5,hv]⟩,by (simp; try omega), ?_⟩; constructor <;> (simp (maxSteps:=999999) (disch:=first|exact {}|omega|simp) [Lw,Lm,Lt,Lo,Ln,allLen,cutN,cutF,hA,hB,h4,h5,h40,hv,hasN,hh,vaI,vaH,encPs,tk,tk2]) <;> (try omega))
  | a =>
   simp only [vaOk] at hv
   simp (maxSteps:=999999) (disch:=first|exact {}|omega|simp) [Lw,Lm,Lt,Lo,Ln,allLen,hlt,encPs_get hlt,vaI,vaH,hne,rm,hm0,hm1,hmod,eq2,lP,lL]
   refine CallK.of (c1) (by first | exact .inl rfl | exact .inr (by simp)) (by simp) ?_
   simp (maxSteps:=999999) (disch:=first|exact {}|omega|simp) [Lw,Lm,Lt,Lo,Ln,allLen,hlt,encPs_get hlt,vaI,vaH,hne,rm,hm0,hm1,hmod,eq2,lP,lL,w1,hA]
   refine CallK.of (c2) (by first | exact .inl rfl | exact .inr (by simp)) (by simp) ?_
   simp (maxSteps:=999999) (disch:=first|exact {}|omega|simp) [Lw,Lm,Lt,Lo,Ln,allLen,hlt,encPs_get hlt,vaI,vaH,hne,rm,hm0,hm1,hmod,eq2,lP,lL,w2,hA,hB]
   cases hh:hasN l s ps k
   ·(first | refine Gd.dec (fun h4=>?_) (fun h4=>?_) | refine Gd.intro (fun h4=>?_) (fun h4=>?_)) <;> simp (maxSteps:=999999) (disch:=first|exact {}|omega|simp) [Lw,Lm,Lt,Lo,Ln,allLen,h4]
    ·simp (maxSteps:=999999) (disch:=first|exact {}|omega|simp) [Lw,Lm,Lt,Lo,Ln,allLen,h4,w3,lP,lL,mem_encPs,most,big1,big2]
     (first | refine Gd.dec (fun h5=>?_) (fun h5=>?_) | refine Gd.intro (fun h5=>?_) (fun h5=>?_)) <;> simp (maxSteps:=999999) (disch:=first|exact {}|omega|simp) [Lw,Lm,Lt,Lo,Ln,allLen,h5]
     ·obtain ⟨g1,g2,g3⟩:=gk h5
      refine CallK.of (c88 (nth ps k) (nxt ps k) hp hq (by omega) (by omega) g1) (by first | exact .inl rfl | exact .inr (by simp)) (by simp) ?_
      simp (maxSteps:=999999) (disch:=first|exact {}|omega|simp) [Lw,Lm,Lt,Lo,Ln,allLen,lP,lL]
      refine CallK.of (c89 (sideL (nth ps k) (nxt ps k)) l g3 hl (by omega) (by omega) (sideL_dir _ _).1 (sideL_dir _ _).2 h0 h1 g2) (by first | exact .inl rfl | exact .inr (by simp)) (by simp) ?_
      simp (maxSteps:=999999) (disch:=first|exact {}|omega|simp) [Lw,Lm,Lt,Lo,Ln,allLen,lP,lL,mem_encPs,most,big1,big2,big3,big4]
      have hcut:cutN l s ps (k + 1) = cutN l s ps k ++ cutF l s (nth ps k) (nxt ps k):=rfl
      simp only [cutF,hA,hB,h4,h5,hv,if_true,if_false,List.nil_append,List.append_nil,List.append_assoc,List.cons_append] at hcut
      generalize meetP (sideL (nth ps k) (nxt ps k)) l = X at *
      generalize sideL (nth ps k) (nxt ps k) = Y at *
      (refine ⟨⟨(k + 1,.a),by omega,trivial⟩,by (simp; try omega), ?_⟩; constructor <;> (simp (maxSteps:=999999) (disch:=first|exact {}|omega|simp) [Lw,Lm,Lt,Lo,Ln,allLen,hcut,hA,hB,h4,h5,hv,hasN,hh,vaI,vaH,encPs,tk,tk2]) <;> (try omega))
     ·(refine ⟨⟨(k + 1,.a),by omega,trivial⟩,by (simp; try omega), ?_⟩; constructor <;> (simp (maxSteps:=999999) (disch:=first|exact {}|omega|simp) [Lw,Lm,Lt,Lo,Ln,allLen,cutN,cutF,hA,hB,h4,h5,hv,hasN,hh,vaI,vaH,encPs,tk,tk2]) <;> (try omega))
    ·have h40:¬ 0 < A:=by omega
     simp (maxSteps:=999999) (disch:=first|exact {}|omega|simp) [Lw,Lm,Lt,Lo,Ln,allLen,h4,w3,lP,lL]
     (first | refine Gd.dec (fun h5=>?_) (fun h5=>?_) | refine Gd.intro (fun h5=>?_) (fun h5=>?_)) <;> simp (maxSteps:=999999) (disch:=first|exact {}|omega|simp) [Lw,Lm,Lt,Lo,Ln,allLen,h5]
     ·obtain ⟨g1,g2,g3⟩:=gk h5
      refine CallK.of (c88 (nth ps k) (nxt ps k) hp hq (by omega) (by omega) g1) (by first | exact .inl rfl | exact .inr (by simp)) (by simp) ?_
      simp (maxSteps:=999999) (disch:=first|exact {}|omega|simp) [Lw,Lm,Lt,Lo,Ln,allLen,lP,lL]
      refine CallK.of (c89 (sideL (nth ps k) (nxt ps k)) l g3 hl (by omega) (by omega) (sideL_dir _ _).1 (sideL_dir _ _).2 h0 h1 g2) (by first | exact .inl rfl | exact .inr (by simp)) (by simp) ?_
      simp (maxSteps:=999999) (disch:=first|exact {}|omega|simp) [Lw,Lm,Lt,Lo,Ln,allLen,lP,lL,mem_encPs,most,big1,big2,big3,big4]
      have hcut:cutN l s ps (k + 1) = cutN l s ps k ++ cutF l s (nth ps k) (nxt ps k):=rfl
      simp only [cutF,hA,hB,h4,h5,hv,if_true,if_false,List.nil_append,List.append_nil,List.append_assoc,List.cons_append] at hcut
      generalize meetP (sideL (nth ps k) (nxt ps k)) l = X at *
      generalize sideL (nth ps k) (nxt ps k) = Y at *
      (refine ⟨⟨(k + 1,.a),by omega,trivial⟩,by (simp; try omega), ?_⟩; constructor <;> (simp (maxSteps:=999999) (disch:=first|exact {}|omega|simp) [Lw,Lm,Lt,Lo,Ln,allLen,hcut,hA,hB,h4,h5,hv,hasN,hh,vaI,vaH,encPs,tk,tk2]) <;> (try omega))
     ·(refine ⟨⟨(k + 1,.a),by omega,trivial⟩,by (simp; try omega), ?_⟩; constructor <;> (simp (maxSteps:=999999) (disch:=first|exact {}|omega|simp) [Lw,Lm,Lt,Lo,Ln,allLen,cutN,cutF,hA,hB,h4,h5,h40,hv,hasN,hh,vaI,vaH,encPs,tk,tk2]) <;> (try omega))
   ·(first | refine Gd.dec (fun h4=>?_) (fun h4=>?_) | refine Gd.intro (fun h4=>?_) (fun h4=>?_)) <;> simp (maxSteps:=999999) (disch:=first|exact {}|omega|simp) [Lw,Lm,Lt,Lo,Ln,allLen,h4]
    ·simp (maxSteps:=999999) (disch:=first|exact {}|omega|simp) [Lw,Lm,Lt,Lo,Ln,allLen,h4,w3,lP,lL,mem_encPs,most,big1,big2]
     (first | refine Gd.dec (fun h5=>?_) (fun h5=>?_) | refine Gd.intro (fun h5=>?_) (fun h5=>?_)) <;> simp (maxSteps:=999999) (disch:=first|exact {}|omega|simp) [Lw,Lm,Lt,Lo,Ln,allLen,h5]
     ·obtain ⟨g1,g2,g3⟩:=gk h5
      refine CallK.of (c88 (nth ps k) (nxt ps k) hp hq (by omega) (by omega) g1) (by first | exact .inl rfl | exact .inr (by simp)) (by simp) ?_
      simp (maxSteps:=999999) (disch:=first|exact {}|omega|simp) [Lw,Lm,Lt,Lo,Ln,allLen,lP,lL]
      refine CallK.of (c89 (sideL (nth ps k) (nxt ps k)) l g3 hl (by omega) (by omega) (sideL_dir _ _).1 (sideL_dir _ _).2 h0 h1 g2) (by first | exact .inl rfl | exact .inr (by simp)) (by simp) ?_
      simp (maxSteps:=999999) (disch:=first|exact {}|omega|simp) [Lw,Lm,Lt,Lo,Ln,allLen,lP,lL,mem_encPs,most,big1,big2,big3,big4]
      have hcut:cutN l s ps (k + 1) = cutN l s ps k ++ cutF l s (nth ps k) (nxt ps k):=rfl
      simp only [cutF,hA,hB,h4,h5,hv,if_true,if_false,List.nil_append,List.append_nil,List.append_assoc,List.cons_append] at hcut
      generalize meetP (sideL (nth ps k) (nxt ps k)) l = X at *
      generalize sideL (nth ps k) (nxt ps k) = Y at *
      (refine ⟨⟨(k + 1,.a),by omega,trivial⟩,by (simp; try omega), ?_⟩; constructor <;> (simp (maxSteps:=999999) (disch:=first|exact {}|omega|simp) [Lw,Lm,Lt,Lo,Ln,allLen,hcut,hA,hB,h4,h5,hv,hasN,hh,vaI,vaH,encPs,tk,tk2]) <;> (try omega))
     ·(refine ⟨⟨(k + 1,.a),by omega,trivial⟩,by (simp; try omega), ?_⟩; constructor <;> (simp (maxSteps:=999999) (disch:=first|exact {}|omega|simp) [Lw,Lm,Lt,Lo,Ln,allLen,cutN,cutF,hA,hB,h4,h5,hv,hasN,hh,vaI,vaH,encPs,tk,tk2]) <;> (try omega))
    ·have h40:¬ 0 < A:=by omega
     simp (maxSteps:=999999) (disch:=first|exact {}|omega|simp) [Lw,Lm,Lt,Lo,Ln,allLen,h4,w3,lP,lL]
     (first | refine Gd.dec (fun h5=>?_) (fun h5=>?_) | refine Gd.intro (fun h5=>?_) (fun h5=>?_)) <;> simp (maxSteps:=999999) (disch:=first|exact {}|omega|simp) [Lw,Lm,Lt,Lo,Ln,allLen,h5]
     ·obtain ⟨g1,g2,g3⟩:=gk h5
      refine CallK.of (c88 (nth ps k) (nxt ps k) hp hq (by omega) (by omega) g1) (by first | exact .inl rfl | exact .inr (by simp)) (by simp) ?_
      simp (maxSteps:=999999) (disch:=first|exact {}|omega|simp) [Lw,Lm,Lt,Lo,Ln,allLen,lP,lL]
      refine CallK.of (c89 (sideL (nth ps k) (nxt ps k)) l g3 hl (by omega) (by omega) (sideL_dir _ _).1 (sideL_dir _ _).2 h0 h1 g2) (by first | exact .inl rfl | exact .inr (by simp)) (by simp) ?_
      simp (maxSteps:=999999) (disch:=first|exact {}|omega|simp) [Lw,Lm,Lt,Lo,Ln,allLen,lP,lL,mem_encPs,most,big1,big2,big3,big4]
      have hcut:cutN l s ps (k + 1) = cutN l s ps k ++ cutF l s (nth ps k) (nxt ps k):=rfl
      simp only [cutF,hA,hB,h4,h5,hv,if_true,if_false,List.nil_append,List.append_nil,List.append_assoc,List.cons_append] at hcut
      generalize meetP (sideL (nth ps k) (nxt ps k)) l = X at *
      generalize sideL (nth ps k) (nxt ps k) = Y at *
      (refine ⟨⟨(k + 1,.a),by omega,trivial⟩,by (simp; try omega), ?_⟩; constructor <;> (simp (maxSteps:=999999) (disch:=first|exact {}|omega|simp) [Lw,Lm,Lt,Lo,Ln,allLen,hcut,hA,hB,h4,h5,hv,hasN,hh,vaI,vaH,encPs,tk,tk2]) <;> (try omega))
     ·(refine ⟨⟨(k + 1,.a),by omega,trivial⟩,by (simp; try omega), ?_⟩; constructor <;> (simp (maxSteps:=999999) (disch:=first|exact {}|omega|simp) [Lw,Lm,Lt,Lo,Ln,allLen,cutN,cutF,hA,hB,h4,h5,h40,hv,hasN,hh,vaI,vaH,encPs,tk,tk2]) <;> (try omega))
  | b =>
   simp only [vaOk] at hv
   simp (maxSteps:=999999) (disch:=first|exact {}|omega|simp) [Lw,Lm,Lt,Lo,Ln,allLen,hlt,encPs_get hlt,vaI,vaH,hne,rm,hm0,hm1,hmod,eq2,lP,lL]
   refine CallK.of (c1) (by first | exact .inl rfl | exact .inr (by simp)) (by simp) ?_
   simp (maxSteps:=999999) (disch:=first|exact {}|omega|simp) [Lw,Lm,Lt,Lo,Ln,allLen,hlt,encPs_get hlt,vaI,vaH,hne,rm,hm0,hm1,hmod,eq2,lP,lL,w1,hA]
   refine CallK.of (c2) (by first | exact .inl rfl | exact .inr (by simp)) (by simp) ?_
   simp (maxSteps:=999999) (disch:=first|exact {}|omega|simp) [Lw,Lm,Lt,Lo,Ln,allLen,hlt,encPs_get hlt,vaI,vaH,hne,rm,hm0,hm1,hmod,eq2,lP,lL,w2,hA,hB]
   cases hh:hasN l s ps k
   ·(first | refine Gd.dec (fun h4=>?_) (fun h4=>?_) | refine Gd.intro (fun h4=>?_) (fun h4=>?_)) <;> simp (maxSteps:=999999) (disch:=first|exact {}|omega|simp) [Lw,Lm,Lt,Lo,Ln,allLen,h4]
    ·simp (maxSteps:=999999) (disch:=first|exact {}|omega|simp) [Lw,Lm,Lt,Lo,Ln,allLen,h4,w3,lP,lL,mem_encPs,most,big1,big2]
     (first | refine Gd.dec (fun h5=>?_) (fun h5=>?_) | refine Gd.intro (fun h5=>?_) (fun h5=>?_)) <;> simp (maxSteps:=999999) (disch:=first|exact {}|omega|simp) [Lw,Lm,Lt,Lo,Ln,allLen,h5]
     ·obtain ⟨g1,g2,g3⟩:=gk h5
      refine CallK.of (c88 (nth ps k) (nxt ps k) hp hq (by omega) (by omega) g1) (by first | exact .inl rfl | exact .inr (by simp)) (by simp) ?_
      simp (maxSteps:=999999) (disch:=first|exact {}|omega|simp) [Lw,Lm,Lt,Lo,Ln,allLen,lP,lL]
      refine CallK.of (c89 (sideL (nth ps k) (nxt ps k)) l g3 hl (by omega) (by omega) (sideL_dir _ _).1 (sideL_dir _ _).2 h0 h1 g2) (by first | exact .inl rfl | exact .inr (by simp)) (by simp) ?_
      simp (maxSteps:=999999) (disch:=first|exact {}|omega|simp) [Lw,Lm,Lt,Lo,Ln,allLen,lP,lL,mem_encPs,most,big1,big2,big3,big4]
      have hcut:cutN l s ps (k + 1) = cutN l s ps k ++ cutF l s (nth ps k) (nxt ps k):=rfl
      simp only [cutF,hA,hB,h4,h5,hv,if_true,if_false,List.nil_append,List.append_nil,List.append_assoc,List.cons_append] at hcut
      generalize meetP (sideL (nth ps k) (nxt ps k)) l = X at *
      generalize sideL (nth ps k) (nxt ps k) = Y at *
      (refine ⟨⟨(k + 1,.b),by omega,trivial⟩,by (simp; try omega), ?_⟩; constructor <;> (simp (maxSteps:=999999) (disch:=first|exact {}|omega|simp) [Lw,Lm,Lt,Lo,Ln,allLen,hcut,hA,hB,h4,h5,hv,hasN,hh,vaI,vaH,encPs,tk,tk2]) <;> (try omega))
     ·(refine ⟨⟨(k + 1,.b),by omega,trivial⟩,by (simp; try omega), ?_⟩; constructor <;> (simp (maxSteps:=999999) (disch:=first|exact {}|omega|simp) [Lw,Lm,Lt,Lo,Ln,allLen,cutN,cutF,hA,hB,h4,h5,hv,hasN,hh,vaI,vaH,encPs,tk,tk2]) <;> (try omega))
    ·have h40:¬ 0 < A:=by omega
     simp (maxSteps:=999999) (disch:=first|exact {}|omega|simp) [Lw,Lm,Lt,Lo,Ln,allLen,h4,w3,lP,lL]
     (first | refine Gd.dec (fun h5=>?_) (fun h5=>?_) | refine Gd.intro (fun h5=>?_) (fun h5=>?_)) <;> simp (maxSteps:=999999) (disch:=first|exact {}|omega|simp) [Lw,Lm,Lt,Lo,Ln,allLen,h5]
     ·obtain ⟨g1,g2,g3⟩:=gk h5
      refine CallK.of (c88 (nth ps k) (nxt ps k) hp hq (by omega) (by omega) g1) (by first | exact .inl rfl | exact .inr (by simp)) (by simp) ?_
      simp (maxSteps:=999999) (disch:=first|exact {}|omega|simp) [Lw,Lm,Lt,Lo,Ln,allLen,lP,lL]
      refine CallK.of (c89 (sideL (nth ps k) (nxt ps k)) l g3 hl (by omega) (by omega) (sideL_dir _ _).1 (sideL_dir _ _).2 h0 h1 g2) (by first | exact .inl rfl | exact .inr (by simp)) (by simp) ?_
      simp (maxSteps:=999999) (disch:=first|exact {}|omega|simp) [Lw,Lm,Lt,Lo,Ln,allLen,lP,lL,mem_encPs,most,big1,big2,big3,big4]
      have hcut:cutN l s ps (k + 1) = cutN l s ps k ++ cutF l s (nth ps k) (nxt ps k):=rfl
      simp only [cutF,hA,hB,h4,h5,hv,if_true,if_false,List.nil_append,List.append_nil,List.append_assoc,List.cons_append] at hcut
      generalize meetP (sideL (nth ps k) (nxt ps k)) l = X at *
      generalize sideL (nth ps k) (nxt ps k) = Y at *
      (refine ⟨⟨(k + 1,.b),by omega,trivial⟩,by (simp; try omega), ?_⟩; constructor <;> (simp (maxSteps:=999999) (disch:=first|exact {}|omega|simp) [Lw,Lm,Lt,Lo,Ln,allLen,hcut,hA,hB,h4,h5,hv,hasN,hh,vaI,vaH,encPs,tk,tk2]) <;> (try omega))
     ·(refine ⟨⟨(k + 1,.b),by omega,trivial⟩,by (simp; try omega), ?_⟩; constructor <;> (simp (maxSteps:=999999) (disch:=first|exact {}|omega|simp) [Lw,Lm,Lt,Lo,Ln,allLen,cutN,cutF,hA,hB,h4,h5,h40,hv,hasN,hh,vaI,vaH,encPs,tk,tk2]) <;> (try omega))
   ·(first | refine Gd.dec (fun h4=>?_) (fun h4=>?_) | refine Gd.intro (fun h4=>?_) (fun h4=>?_)) <;> simp (maxSteps:=999999) (disch:=first|exact {}|omega|simp) [Lw,Lm,Lt,Lo,Ln,allLen,h4]
    ·simp (maxSteps:=999999) (disch:=first|exact {}|omega|simp) [Lw,Lm,Lt,Lo,Ln,allLen,h4,w3,lP,lL,mem_encPs,most,big1,big2]
     (first | refine Gd.dec (fun h5=>?_) (fun h5=>?_) | refine Gd.intro (fun h5=>?_) (fun h5=>?_)) <;> simp (maxSteps:=999999) (disch:=first|exact {}|omega|simp) [Lw,Lm,Lt,Lo,Ln,allLen,h5]
     ·obtain ⟨g1,g2,g3⟩:=gk h5
      refine CallK.of (c88 (nth ps k) (nxt ps k) hp hq (by omega) (by omega) g1) (by first | exact .inl rfl | exact .inr (by simp)) (by simp) ?_
      simp (maxSteps:=999999) (disch:=first|exact {}|omega|simp) [Lw,Lm,Lt,Lo,Ln,allLen,lP,lL]
      refine CallK.of (c89 (sideL (nth ps k) (nxt ps k)) l g3 hl (by omega) (by omega) (sideL_dir _ _).1 (sideL_dir _ _).2 h0 h1 g2) (by first | exact .inl rfl | exact .inr (by simp)) (by simp) ?_
      simp (maxSteps:=999999) (disch:=first|exact {}|omega|simp) [Lw,Lm,Lt,Lo,Ln,allLen,lP,lL,mem_encPs,most,big1,big2,big3,big4]
      have hcut:cutN l s ps (k + 1) = cutN l s ps k ++ cutF l s (nth ps k) (nxt ps k):=rfl
      simp only [cutF,hA,hB,h4,h5,hv,if_true,if_false,List.nil_append,List.append_nil,List.append_assoc,List.cons_append] at hcut
      generalize meetP (sideL (nth ps k) (nxt ps k)) l = X at *
      generalize sideL (nth ps k) (nxt ps k) = Y at *
      (refine ⟨⟨(k + 1,.b),by omega,trivial⟩,by (simp; try omega), ?_⟩; constructor <;> (simp (maxSteps:=999999) (disch:=first|exact {}|omega|simp) [Lw,Lm,Lt,Lo,Ln,allLen,hcut,hA,hB,h4,h5,hv,hasN,hh,vaI,vaH,encPs,tk,tk2]) <;> (try omega))
     ·(refine ⟨⟨(k + 1,.b),by omega,trivial⟩,by (simp; try omega), ?_⟩; constructor <;> (simp (maxSteps:=999999) (disch:=first|exact {}|omega|simp) [Lw,Lm,Lt,Lo,Ln,allLen,cutN,cutF,hA,hB,h4,h5,hv,hasN,hh,vaI,vaH,encPs,tk,tk2]) <;> (try omega))
    ·have h40:¬ 0 < A:=by omega
     simp (maxSteps:=999999) (disch:=first|exact {}|omega|simp) [Lw,Lm,Lt,Lo,Ln,allLen,h4,w3,lP,lL]
     (first | refine Gd.dec (fun h5=>?_) (fun h5=>?_) | refine Gd.intro (fun h5=>?_) (fun h5=>?_)) <;> simp (maxSteps:=999999) (disch:=first|exact {}|omega|simp) [Lw,Lm,Lt,Lo,Ln,allLen,h5]
     ·obtain ⟨g1,g2,g3⟩:=gk h5
      refine CallK.of (c88 (nth ps k) (nxt ps k) hp hq (by omega) (by omega) g1) (by first | exact .inl rfl | exact .inr (by simp)) (by simp) ?_
      simp (maxSteps:=999999) (disch:=first|exact {}|omega|simp) [Lw,Lm,Lt,Lo,Ln,allLen,lP,lL]
      refine CallK.of (c89 (sideL (nth ps k) (nxt ps k)) l g3 hl (by omega) (by omega) (sideL_dir _ _).1 (sideL_dir _ _).2 h0 h1 g2) (by first | exact .inl rfl | exact .inr (by simp)) (by simp) ?_
      simp (maxSteps:=999999) (disch:=first|exact {}|omega|simp) [Lw,Lm,Lt,Lo,Ln,allLen,lP,lL,mem_encPs,most,big1,big2,big3,big4]
      have hcut:cutN l s ps (k + 1) = cutN l s ps k ++ cutF l s (nth ps k) (nxt ps k):=rfl
      simp only [cutF,hA,hB,h4,h5,hv,if_true,if_false,List.nil_append,List.append_nil,List.append_assoc,List.cons_append] at hcut
      generalize meetP (sideL (nth ps k) (nxt ps k)) l = X at *
      generalize sideL (nth ps k) (nxt ps k) = Y at *
      (refine ⟨⟨(k + 1,.b),by omega,trivial⟩,by (simp; try omega), ?_⟩; constructor <;> (simp (maxSteps:=999999) (disch:=first|exact {}|omega|simp) [Lw,Lm,Lt,Lo,Ln,allLen,hcut,hA,hB,h4,h5,hv,hasN,hh,vaI,vaH,encPs,tk,tk2]) <;> (try omega))
     ·(refine ⟨⟨(k + 1,.b),by omega,trivial⟩,by (simp; try omega), ?_⟩; constructor <;> (simp (maxSteps:=999999) (disch:=first|exact {}|omega|simp) [Lw,Lm,Lt,Lo,Ln,allLen,cutN,cutF,hA,hB,h4,h5,h40,hv,hasN,hh,vaI,vaH,encPs,tk,tk2]) <;> (try omega))
 ·obtain rfl:k = ps.length:=by omega
  have hcl:=cutN_len l s ps ps.length
  have hpb:=cutN_PB h hl h0 h1 hg hM ps.length (Nat.le_refl _)
  have hrot:=c136 (cutN l s ps ps.length) hpb (by omega) (by omega) (by omega)
  have htk:List.take (cutN l s ps ps.length).length (encPs (cutN l s ps ps.length)) = encPs (cutN l s ps ps.length):=List.take_of_length_le (by simp)
  have htk2:List.take (rot0 (cutN l s ps ps.length)).length (encPs (rot0 (cutN l s ps ps.length))) = encPs (rot0 (cutN l s ps ps.length)):=List.take_of_length_le (by simp)
  cases v with
  | n =>
   simp only [vaOk] at hv
   rw [hv] at hrot
   cases hh:hasN l s ps ps.length
   ·simp (maxSteps:=999999) (disch:=first|exact {}|omega|simp) [Lw,Lm,Lt,Lo,Ln,allLen,vaI,vaH,hh,partR,encPs]
   ·simp (maxSteps:=999999) (disch:=first|exact {}|omega|simp) [Lw,Lm,Lt,Lo,Ln,allLen,vaI,vaH,hh]
    refine CallK.of (hrot) (by first | exact .inl rfl | exact .inr (by simp)) (by simp) ?_
    simp (maxSteps:=999999) (disch:=first|exact {}|omega|simp) [Lw,Lm,Lt,Lo,Ln,allLen,partR,hh,hv,rot0,encPs]
  | a =>
   cases hh:hasN l s ps ps.length
   ·simp (maxSteps:=999999) (disch:=first|exact {}|omega|simp) [Lw,Lm,Lt,Lo,Ln,allLen,vaI,vaH,hh,partR,encPs]
   ·simp (maxSteps:=999999) (disch:=first|exact {}|omega|simp) [Lw,Lm,Lt,Lo,Ln,allLen,vaI,vaH,hh,htk]
    refine CallK.of (hrot) (by first | exact .inl rfl | exact .inr (by simp)) (by simp) ?_
    simp (maxSteps:=999999) (disch:=first|exact {}|omega|simp) [Lw,Lm,Lt,Lo,Ln,allLen,partR,hh,htk2]
  | b =>
   cases hh:hasN l s ps ps.length
   ·simp (maxSteps:=999999) (disch:=first|exact {}|omega|simp) [Lw,Lm,Lt,Lo,Ln,allLen,vaI,vaH,hh,partR,encPs]
   ·simp (maxSteps:=999999) (disch:=first|exact {}|omega|simp) [Lw,Lm,Lt,Lo,Ln,allLen,vaI,vaH,hh,htk]
    refine CallK.of (hrot) (by first | exact .inl rfl | exact .inr (by simp)) (by simp) ?_
    simp (maxSteps:=999999) (disch:=first|exact {}|omega|simp) [Lw,Lm,Lt,Lo,Ln,allLen,partR,hh,htk2]
end Go.Vai
