/- Texts of this claim: Zh6, Zp13, Zh7, Zh8. -/
import Derived.Test.YtiipeibaiphmpaaGreatDoorTb16
set_option linter.unusedVariables false
set_option linter.unusedSimpArgs false
set_option maxHeartbeats 8000000
namespace Go.Vai
theorem c286 (a b:Nu) {K M:Nat} (ha:NB K M a) (hb:NB K M b) (hK:K ≤ 60) (hM:M + M ≤ 4611686018427387904):PC E 286 [.agg (encN a),.agg (encN b)] [.agg (encN (nleast a b))]:=by
 refine zP hE Proofs.Tryz.func286 Proofs.Tryz.ntmps286 rfl rfl ?_
 simp (maxSteps:=999999) (disch:=first|exact {}|omega|simp) [zS]
 refine zC (c128 a b ha hb hK hM) ?_
 simp (maxSteps:=999999) (disch:=first|exact {}|omega|simp) [zS]
 have hs:=ha.sub hb
 refine zC (c127 _ (hs.i64 hM hK) (hs.ne hM).1 (hs.ne hM).2) ?_
 simp (maxSteps:=999999) (disch:=first|exact {}|omega|simp) [zS]
 (first | refine Gd.dec (fun h1=>?_) (fun h1=>?_) | refine Gd.intro (fun h1=>?_) (fun h1=>?_)) <;> simp (maxSteps:=999999) (disch:=first|exact {}|omega|simp) [zS,h1]
 ·simp [nleast,h1]
 ·simp [nleast,h1]
theorem c285 (a b:Nu) {K M:Nat} (ha:NB K M a) (hb:NB K M b) (hK:K ≤ 60) (hM:M + M ≤ 4611686018427387904):PC E 285 [.agg (encN a),.agg (encN b)] [.agg (encN (nmost a b))]:=by
 refine zP hE Proofs.Tryz.func285 Proofs.Tryz.ntmps285 rfl rfl ?_
 simp (maxSteps:=999999) (disch:=first|exact {}|omega|simp) [zS]
 refine zC (c128 a b ha hb hK hM) ?_
 simp (maxSteps:=999999) (disch:=first|exact {}|omega|simp) [zS]
 have hs:=ha.sub hb
 refine zC (c127 _ (hs.i64 hM hK) (hs.ne hM).1 (hs.ne hM).2) ?_
 simp (maxSteps:=999999) (disch:=first|exact {}|omega|simp) [zS]
 (first | refine Gd.dec (fun h1=>?_) (fun h1=>?_) | refine Gd.intro (fun h1=>?_) (fun h1=>?_)) <;> simp (maxSteps:=999999) (disch:=first|exact {}|omega|simp) [zS,h1]
 ·simp [nmost,h1]
 ·simp [nmost,h1]
def endW (d:Int) (l:Li) (ps:List Pt) (k:Nat):List Nu:=(endsN l ps k).map (ndot (vec d))
theorem endW_zero {d:Int} {l:Li} {ps:List Pt} {k:Nat} (h:sd l (nth ps k) = 0):endW d l ps (k + 1) = endW d l ps k ++ [ndot (vec d) (nth ps k)]:=by
 have:¬ (0:Int) * sd l (nxt ps k) < 0:=by omega
 simp [endW,endsN,endsF,h]
theorem endW_cross {d:Int} {l:Li} {ps:List Pt} {k:Nat} (h:sd l (nth ps k) * sd l (nxt ps k) < 0):endW d l ps (k + 1) = endW d l ps k ++ [ndot (vec d) (meetP (sideL (nth ps k) (nxt ps k)) l)]:=by
 have h0:sd l (nth ps k) ≠ 0:=by intro e; rw [e] at h; omega
 simp [endW,endsN,endsF,h,h0]
theorem endW_none {d:Int} {l:Li} {ps:List Pt} {k:Nat} (h0:¬ sd l (nth ps k) = 0) (h:¬ sd l (nth ps k) * sd l (nxt ps k) < 0):endW d l ps (k + 1) = endW d l ps k:=by
 simp only [endW,endsN,endsF,if_neg h0,if_neg h,List.append_nil]
theorem endW_len (d:Int) (l:Li) (ps:List Pt):∀ k,(endW d l ps k).length ≤ 2 * k
 | 0=>by simp [endW,endsN]
 | k + 1=>by
  have h1:=endW_len d l ps k
  have h2:(endsF l (nth ps k) (nxt ps k)).length ≤ 2:=by rw [endsF_len]; unfold eN; split <;> split <;> omega
  simp only [endW,endsN,List.length_map,List.length_append] at *
  omega
def vaI3 (v:Va) (l:List Nu):AV:=match v with
 | .n=>.esl
 | .a=>.own 70 0 l.length
 | .b=>.own 87 0 l.length
def vaH3 (v:Va) (l:List Nu):List (Nat × Obj):=match v with
 | .n=>[]
 | .a=>[(70,⟨3,l.map encN⟩)]
 | .b=>[(87,⟨3,l.map encN⟩)]
def vaOk3 (v:Va) (l:List Nu):Prop:=match v with
 | .n=>l = []
 | _=>True
theorem half_has {l:Li} {s:Int} {ps:List Pt}:decide (0 < (partR l s ps).length) = decide (0 < (halfR l s ps).length):=by
 rw [partR_eq]; split
 ·rw [rot0_len]
 ·rfl
theorem Chd.half {l:Li} {ps:List Pt} (h:Chd l ps) (s:Int) (hs:s = 1 ∨ s = -1):PC E 287 [.i (.sl (encPs ps)),.agg (encLi l),.i (.int .i64 s)] [.i (.sl (encPs (halfR l s ps)))] :=
 (c287 ps l s h.pb h.nb h.ok.d0 h.ok.d1 (h.good s) (by decide) (by decide) (by decide) hs (by have:=h.n16; omega)).imm
theorem Chd.endB {l:Li} {ps:List Pt} (h:Chd l ps):∀ e ∈ endsN l ps ps.length,PB (10 + 3) MP e:=by
 intro e he
 rw [← cutN_filter (h.good 1) h.ok h.conv.pk _ (Nat.le_refl _)] at he
 exact cutN_PB h.pb h.nb h.ok.d0 h.ok.d1 (h.good 1) (by decide) _ (Nat.le_refl _) e ((List.mem_filter.1 he).1)
theorem mul_sd {a b:Int} (ha:a = -1 ∨ a = 0 ∨ a = 1) (hb:b = -1 ∨ b = 0 ∨ b = 1):IntKind.i64.wrap (a * b) = a * b:=by
 rcases ha with rfl | rfl | rfl <;> rcases hb with rfl | rfl | rfl <;> decide
theorem cross_ends {ps:List Pt} {p q:Pt} (h:Crs ps p q) (hd:¬ dirR (pminus q p) < 0) (hc:chordB (sideL p q) ps = true) :
  ∃ x y,endW (dirR (pminus q p)) (sideL p q) ps ps.length = [x,y] ∧ NB 13 (6 * MP) x ∧ NB 13 (6 * MP) y ∧ crossB ps p q = crS (ndot (vec (dirR (pminus q p))) p) (ndot (vec (dirR (pminus q p))) q) x y:=by
 have hch:=h.chd
 have hdr:=dirR_range (pminus q p)
 have hv:PB 0 1 (vec (dirR (pminus q p))):=vec_PB (by omega) (by omega)
 obtain ⟨x,y,e1,e2⟩:=hch.two hc
 have hb:=hch.endB
 rw [e1] at hb
 have bx:=dotB hv (hb x (by simp))
 have bY:=dotB hv (hb y (by simp))
 have bp:=dotB hv h.hp
 have bq:=dotB hv h.hq
 refine ⟨_,_,by unfold endW; rw [e1]; rfl,bx,bY, ?_⟩
 unfold crossB
 rw [decide_eq_true (show 0 ≤ dirR (pminus q p) by omega),hc,Bool.true_and,Bool.true_and]
 unfold chX chY
 rw [if_pos hc,if_pos hc]
 rcases e2 with e2 | e2 <;> rw [e2]
 ·exact shB_crS bp.k0 bq.k0 bx.k0 bY.k0
 ·have:=shB_crS bp.k0 bq.k0 bY.k0 bx.k0
  exact this.trans (crS_comm bp.k0 bq.k0 bY.k0 bx.k0)
theorem c247 (ps:List Pt) (p q:Pt) (h:Crs ps p q):PC E 247 [.i (.sl (encPs ps)),.agg (encP p),.agg (encP q)] [.i (.bool (crossB ps p q))]:=by
 have hdr:=dirR_range (pminus q p)
 have hch:=h.chd
 have hn16:=h.n16
 refine zP hE Proofs.Tryz.func247 Proofs.Tryz.ntmps247 rfl rfl ?_
 simp (maxSteps:=999999) (disch:=first|exact {}|omega|simp) [zS]
 refine zC (c126 q p h.hq h.hp (by decide) (by decide)) ?_
 simp (maxSteps:=999999) (disch:=first|exact {}|omega|simp) [zS]
 refine zC (c125 _ (h.hq.minus h.hp) (by decide) (by decide)) ?_
 simp (maxSteps:=999999) (disch:=first|exact {}|omega|simp) [zS]
 (first | refine Gd.dec (fun h1=>?_) (fun h1=>?_) | refine Gd.intro (fun h1=>?_) (fun h1=>?_)) <;> simp (maxSteps:=999999) (disch:=first|exact {}|omega|simp) [zS,h1]
 ·rw [show crossB ps p q = false by unfold crossB; rw [decide_eq_false (by omega)]; rfl]
 refine zC (c135 p (dirR (pminus q p)) h.hp (by decide) (by decide) (by omega) (by omega)) ?_
 rw [show lat p (dirR (pminus q p) % 8) = sideL p q from rfl]
 simp (maxSteps:=999999) (disch:=first|exact {}|omega|simp) [zS]
 refine zC (hch.half 1 (.inl rfl)) ?_
 simp (maxSteps:=999999) (disch:=first|exact {}|omega|simp) [zS]
 (first | refine Gd.dec (fun h2=>?_) (fun h2=>?_) | refine Gd.intro (fun h2=>?_) (fun h2=>?_)) <;> simp (maxSteps:=999999) (disch:=first|exact {}|omega|simp) [zS,h2]
 ·have hc:chordB (sideL p q) ps = false:=by unfold chordB; rw [half_has,h2]; simp
  rw [show crossB ps p q = false by unfold crossB; rw [hc]; simp]
 refine zC (hch.half (-1) (.inr rfl)) ?_
 simp (maxSteps:=999999) (disch:=first|exact {}|omega|simp) [zS]
 (first | refine Gd.dec (fun h3=>?_) (fun h3=>?_) | refine Gd.intro (fun h3=>?_) (fun h3=>?_)) <;> simp (maxSteps:=999999) (disch:=first|exact {}|omega|simp) [zS,h3]
 ·have hc:chordB (sideL p q) ps = false:=by unfold chordB; rw [half_has (s:=-1),h3]; simp
  rw [show crossB ps p q = false by unfold crossB; rw [hc]; simp]
 have hc:chordB (sideL p q) ps = true:=by
  unfold chordB
  rw [half_has,half_has,decide_eq_true (List.length_pos_iff.2 (by simpa using h2)),decide_eq_true (List.length_pos_iff.2 (by simpa using h3))]; rfl
 obtain ⟨x,y,exy,bx,bY,ecr⟩:=cross_ends h h1 hc
 rw [ecr]
 have hv:PB 0 1 (vec (dirR (pminus q p))):=vec_PB (by omega) (by omega)
 have hdp:PC E 129 [.i (.int .i64 (dirR (pminus q p))),.agg (encP p)] [.agg (encN (ndot (vec (dirR (pminus q p))) p))]:=by
  have:=c129 (dirR (pminus q p)) p h.hp (by decide) (by decide) (by omega) (by omega)
  rwa [Int.emod_eq_of_lt (by omega) (by omega)] at this
 have hdq:PC E 129 [.i (.int .i64 (dirR (pminus q p))),.agg (encP q)] [.agg (encN (ndot (vec (dirR (pminus q p))) q))]:=by
  have:=c129 (dirR (pminus q p)) q h.hq (by decide) (by decide) (by omega) (by omega)
  rwa [Int.emod_eq_of_lt (by omega) (by omega)] at this
 have hdx:∀ e,PB (10 + 3) MP e → PC E 129 [.i (.int .i64 (dirR (pminus q p))),.agg (encP e)] [.agg (encN (ndot (vec (dirR (pminus q p))) e))]:=fun e he=>by
  have:=c129 (dirR (pminus q p)) e he (by decide) (by decide) (by omega) (by omega)
  rwa [Int.emod_eq_of_lt (by omega) (by omega)] at this
 have bp:NB 13 (6 * MP) (ndot (vec (dirR (pminus q p))) p):=dotB hv (up13 h.hp)
 have bq:NB 13 (6 * MP) (ndot (vec (dirR (pminus q p))) q):=dotB hv (up13 h.hq)
 generalize hvp:ndot (vec (dirR (pminus q p))) p = vp at *
 generalize hvq:ndot (vec (dirR (pminus q p))) q = vq at *
 generalize hd:dirR (pminus q p) = d at *
 generalize hl:sideL p q = l at *
 refine XL.by hE (ι:={ k:Nat × Va // k.1 ≤ ps.length ∧ vaOk3 k.2 (endW d l ps k.1) }) (fun k=>⟨[(0,.i (.sl (encPs ps))),(4,.ptr 4 0 0),(5,.ptr 5 0 0),(7,.i (.int .i64 d)),(8,.ptr 8 0 0),(9,vaI3 k.1.2 (endW d l ps k.1.1)),(10,.i (.int .i64 k.1.1))],
   (8,⟨4,[encLi l]⟩) :: (5,⟨6,[encP q]⟩) :: (4,⟨6,[encP p]⟩) :: vaH3 k.1.2 (endW d l ps k.1.1)⟩)
  (fun k=>ps.length - k.1.1) ⟨(0,.n),Nat.zero_le _,rfl⟩ ⟨by simp [vaI3],by simp [vaH3],by simp [vaI3]⟩ (by kernel_rfl) ?_
 rintro ⟨⟨k,v⟩,hk,hv3⟩
 simp only at hk hv3
 by_cases hlt:k < ps.length
 ·have hmod:(k + 1) % ps.length < ps.length:=Nat.mod_lt _ (by omega)
  have hp':=hch.pb _ (nth_mem hlt)
  have hq':PB (10 + 3) MP (nxt ps k):=hch.pb _ (nth_mem hmod)
  have hwl:=endW_len d l ps k
  have hr1:=sd_range l (nth ps k)
  have hr2:=sd_range l (nxt ps k)
  have gk:=hch.good 1 k hlt
  rw [Int.one_mul,Int.one_mul] at gk
  have eq2:(encPs ps)[(k + 1) % ps.length]? = some (encP (nxt ps k)):=encPs_get hmod
  have hne:¬ ps = []:=by rintro rfl; simp at hlt
  have rm:((k:Int) + 1).tmod (ps.length:Int) = (((k + 1) % ps.length:Nat):Int):=by
   rw [Int.tmod_eq_emod_of_nonneg (by omega)]; simp
  have hm0:¬ (((k:Int) + 1) % (ps.length:Int) < 0):=by have:=Int.emod_nonneg ((k:Int) + 1) (b:=(ps.length:Int)) (by omega); omega
  have hm1:(((k:Int) + 1) % (ps.length:Int)).toNat = (k + 1) % ps.length:=by
   have:((k:Int) + 1) % (ps.length:Int) = (((k + 1) % ps.length:Nat):Int):=by simp
   rw [this]; rfl
  have w3:=mul_sd hr1 hr2
  have c1:=cside2 l (nth ps k) hp' (hch.nb.up (K':=13) (by decide)) (by decide) (by decide) hch.ok.d0 hch.ok.d1
  have c2:=cside2 l (nxt ps k) hq' (hch.nb.up (K':=13) (by decide)) (by decide) (by decide) hch.ok.d0 hch.ok.d1
  have z1:=endW_zero (d:=d) (l:=l) (ps:=ps) (k:=k)
  have z2:=endW_cross (d:=d) (l:=l) (ps:=ps) (k:=k)
  have z3:=endW_none (d:=d) (l:=l) (ps:=ps) (k:=k)
  have lP:∀ p:Pt,(encP p).length = 6:=fun _=>rfl
  have lL:∀ l:Li,(encLi l).length = 4:=fun _=>rfl
  have big1:((endW d l ps k).length:Int) + 1 ≤ 140737488355328:=by omega
  have big2:(((endW d l ps k).length:Int) + 1) * 24 ≤ 140737488355328:=by omega
  have tk:List.take (endW d l ps k).length (List.map encN (endW d l ps k)) = List.map encN (endW d l ps k):=List.take_of_length_le (by simp)
  have hmE:sd l (nth ps k) * sd l (nxt ps k) < 0 → PB (10 + 3) MP (meetP (sideL (nth ps k) (nxt ps k)) l):=fun hx=>by
   obtain ⟨g1,g2,g3⟩:=gk hx
   exact (meet_PB g3 hch.nb (sideL_dir _ _).1 (sideL_dir _ _).2 hch.ok.d0 hch.ok.d1 g2).mono (by decide)
  generalize hA:sd l (nth ps k) = A at *
  generalize hB:sd l (nxt ps k) = B at *
  cases v with
  | n =>
   simp only [vaOk3] at hv3
   rw [hv3,List.nil_append] at z1 z2
   rw [hv3] at z3
   simp (maxSteps:=999999) (disch:=first|exact {}|omega|simp) [zS,hlt,encPs_get hlt,vaI3,vaH3,hv3,hne,rm,hm0,hm1,hmod,eq2,lP,lL]
   refine zC (c1) ?_
   simp (maxSteps:=999999) (disch:=first|exact {}|omega|simp) [zS,hlt,encPs_get hlt,vaI3,vaH3,hv3,hne,rm,hm0,hm1,hmod,eq2,lP,lL]
   refine zC (c2) ?_
   simp (maxSteps:=999999) (disch:=first|exact {}|omega|simp) [zS,hlt,vaI3,vaH3,hv3,lP,lL]
   (first | refine Gd.dec (fun h4=>?_) (fun h4=>?_) | refine Gd.intro (fun h4=>?_) (fun h4=>?_)) <;> simp (maxSteps:=999999) (disch:=first|exact {}|omega|simp) [zS,h4]
   ·refine zC (hdx _ hp') ?_
    have h5:¬ A * B < 0:=by rw [h4]; omega
    simp (maxSteps:=999999) (disch:=first|exact {}|omega|simp) [zS,h4,w3,lP,lL,most]
    (refine ⟨⟨(k + 1,.a),by omega,trivial⟩,by (simp; try omega), ?_⟩; constructor <;> (simp (maxSteps:=999999) (disch:=first|exact {}|omega|simp) [zS,z1 h4,vaI3,vaH3,hv3]) <;> (try omega))
   ·simp (maxSteps:=999999) (disch:=first|exact {}|omega|simp) [zS,h4,w3,lP,lL]
    (first | refine Gd.dec (fun h5=>?_) (fun h5=>?_) | refine Gd.intro (fun h5=>?_) (fun h5=>?_)) <;> simp (maxSteps:=999999) (disch:=first|exact {}|omega|simp) [zS,h5]
    ·obtain ⟨g1,g2,g3⟩:=gk h5
     refine zC (c126 (nxt ps k) (nth ps k) hq' hp' (by decide) (by decide)) ?_
     simp (maxSteps:=999999) (disch:=first|exact {}|omega|simp) [zS]
     refine zC (c125 _ (hq'.minus hp') (by decide) (by decide)) ?_
     simp (maxSteps:=999999) (disch:=first|exact {}|omega|simp) [zS]
     refine zC (c135 (nth ps k) (dirR (pminus (nxt ps k) (nth ps k))) hp' (by decide) (by decide) (by omega) (by have:=dirR_range (pminus (nxt ps k) (nth ps k)); omega)) ?_
     rw [thru_eq g1]
     simp (maxSteps:=999999) (disch:=first|exact {}|omega|simp) [zS,lP,lL]
     refine zC (c68 (sideL (nth ps k) (nxt ps k)) l g3 hch.nb (by decide) (by decide) (sideL_dir _ _).1 (sideL_dir _ _).2 hch.ok.d0 hch.ok.d1 g2) ?_
     simp (maxSteps:=999999) (disch:=first|exact {}|omega|simp) [zS,lP,lL]
     refine zC (hdx _ (hmE h5)) ?_
     simp (maxSteps:=999999) (disch:=first|exact {}|omega|simp) [zS,lP,lL,most]
     (refine ⟨⟨(k + 1,.b),by omega,trivial⟩,by (simp; try omega), ?_⟩; constructor <;> (simp (maxSteps:=999999) (disch:=first|exact {}|omega|simp) [zS,z2 h5,vaI3,vaH3,hv3]) <;> (try omega))
    ·(refine ⟨⟨(k + 1,.n),by omega,z3 h4 h5⟩,by (simp; try omega), ?_⟩; constructor <;> (simp (maxSteps:=999999) (disch:=first|exact {}|omega|simp) [zS,z3 h4 h5,vaI3,vaH3,hv3]) <;> (try omega))
  | a =>
   simp (maxSteps:=999999) (disch:=first|exact {}|omega|simp) [zS,hlt,encPs_get hlt,vaI3,vaH3,hne,rm,hm0,hm1,hmod,eq2,lP,lL]
   refine zC (c1) ?_
   simp (maxSteps:=999999) (disch:=first|exact {}|omega|simp) [zS,hlt,encPs_get hlt,vaI3,vaH3,hne,rm,hm0,hm1,hmod,eq2,lP,lL]
   refine zC (c2) ?_
   simp (maxSteps:=999999) (disch:=first|exact {}|omega|simp) [zS,hlt,vaI3,vaH3,lP,lL]
   (first | refine Gd.dec (fun h4=>?_) (fun h4=>?_) | refine Gd.intro (fun h4=>?_) (fun h4=>?_)) <;> simp (maxSteps:=999999) (disch:=first|exact {}|omega|simp) [zS,h4]
   ·refine zC (hdx _ hp') ?_
    have h5:¬ A * B < 0:=by rw [h4]; omega
    simp (maxSteps:=999999) (disch:=first|exact {}|omega|simp) [zS,h4,w3,lP,lL,most,big1,big2]
    (refine ⟨⟨(k + 1,.a),by omega,trivial⟩,by (simp; try omega), ?_⟩; constructor <;> (simp (maxSteps:=999999) (disch:=first|exact {}|omega|simp) [zS,z1 h4,vaI3,vaH3,tk]) <;> (try omega))
   ·simp (maxSteps:=999999) (disch:=first|exact {}|omega|simp) [zS,h4,w3,lP,lL]
    (first | refine Gd.dec (fun h5=>?_) (fun h5=>?_) | refine Gd.intro (fun h5=>?_) (fun h5=>?_)) <;> simp (maxSteps:=999999) (disch:=first|exact {}|omega|simp) [zS,h5]
    ·obtain ⟨g1,g2,g3⟩:=gk h5
     refine zC (c126 (nxt ps k) (nth ps k) hq' hp' (by decide) (by decide)) ?_
     simp (maxSteps:=999999) (disch:=first|exact {}|omega|simp) [zS]
     refine zC (c125 _ (hq'.minus hp') (by decide) (by decide)) ?_
     simp (maxSteps:=999999) (disch:=first|exact {}|omega|simp) [zS]
     refine zC (c135 (nth ps k) (dirR (pminus (nxt ps k) (nth ps k))) hp' (by decide) (by decide) (by omega) (by have:=dirR_range (pminus (nxt ps k) (nth ps k)); omega)) ?_
     rw [thru_eq g1]
     simp (maxSteps:=999999) (disch:=first|exact {}|omega|simp) [zS,lP,lL]
     refine zC (c68 (sideL (nth ps k) (nxt ps k)) l g3 hch.nb (by decide) (by decide) (sideL_dir _ _).1 (sideL_dir _ _).2 hch.ok.d0 hch.ok.d1 g2) ?_
     simp (maxSteps:=999999) (disch:=first|exact {}|omega|simp) [zS,lP,lL]
     refine zC (hdx _ (hmE h5)) ?_
     simp (maxSteps:=999999) (disch:=first|exact {}|omega|simp) [zS,lP,lL,most,big1,big2]
     (refine ⟨⟨(k + 1,.a),by omega,trivial⟩,by (simp; try omega), ?_⟩; constructor <;> (simp (maxSteps:=999999) (disch:=first|exact {}|omega|simp) [zS,z2 h5,vaI3,vaH3,tk]) <;> (try omega))
    ·(refine ⟨⟨(k + 1,.a),by omega,trivial⟩,by (simp; try omega), ?_⟩; constructor <;> (simp (maxSteps:=999999) (disch:=first|exact {}|omega|simp) [zS,z3 h4 h5,vaI3,vaH3]) <;> (try omega))
  | b =>
   simp (maxSteps:=999999) (disch:=first|exact {}|omega|simp) [zS,hlt,encPs_get hlt,vaI3,vaH3,hne,rm,hm0,hm1,hmod,eq2,lP,lL]
   refine zC (c1) ?_
   simp (maxSteps:=999999) (disch:=first|exact {}|omega|simp) [zS,hlt,encPs_get hlt,vaI3,vaH3,hne,rm,hm0,hm1,hmod,eq2,lP,lL]
   refine zC (c2) ?_
   simp (maxSteps:=999999) (disch:=first|exact {}|omega|simp) [zS,hlt,vaI3,vaH3,lP,lL]
   (first | refine Gd.dec (fun h4=>?_) (fun h4=>?_) | refine Gd.intro (fun h4=>?_) (fun h4=>?_)) <;> simp (maxSteps:=999999) (disch:=first|exact {}|omega|simp) [zS,h4]
   ·refine zC (hdx _ hp') ?_
    have h5:¬ A * B < 0:=by rw [h4]; omega
    simp (maxSteps:=999999) (disch:=first|exact {}|omega|simp) [zS,h4,w3,lP,lL,most,big1,big2]
    (refine ⟨⟨(k + 1,.b),by omega,trivial⟩,by (simp; try omega), ?_⟩; constructor <;> (simp (maxSteps:=999999) (disch:=first|exact {}|omega|simp) [zS,z1 h4,vaI3,vaH3,tk]) <;> (try omega))
   ·simp (maxSteps:=999999) (disch:=first|exact {}|omega|simp) [zS,h4,w3,lP,lL]
    (first | refine Gd.dec (fun h5=>?_) (fun h5=>?_) | refine Gd.intro (fun h5=>?_) (fun h5=>?_)) <;> simp (maxSteps:=999999) (disch:=first|exact {}|omega|simp) [zS,h5]
    ·obtain ⟨g1,g2,g3⟩:=gk h5
     refine zC (c126 (nxt ps k) (nth ps k) hq' hp' (by decide) (by decide)) ?_
     simp (maxSteps:=999999) (disch:=first|exact {}|omega|simp) [zS]
     refine zC (c125 _ (hq'.minus hp') (by decide) (by decide)) ?_
     simp (maxSteps:=999999) (disch:=first|exact {}|omega|simp) [zS]
     refine zC (c135 (nth ps k) (dirR (pminus (nxt ps k) (nth ps k))) hp' (by decide) (by decide) (by omega) (by have:=dirR_range (pminus (nxt ps k) (nth ps k)); omega)) ?_
     rw [thru_eq g1]
     simp (maxSteps:=999999) (disch:=first|exact {}|omega|simp) [zS,lP,lL]
     refine zC (c68 (sideL (nth ps k) (nxt ps k)) l g3 hch.nb (by decide) (by decide) (sideL_dir _ _).1 (sideL_dir _ _).2 hch.ok.d0 hch.ok.d1 g2) ?_
     simp (maxSteps:=999999) (disch:=first|exact {}|omega|simp) [zS,lP,lL]
     refine zC (hdx _ (hmE h5)) ?_
     simp (maxSteps:=999999) (disch:=first|exact {}|omega|simp) [zS,lP,lL,most,big1,big2]
     (refine ⟨⟨(k + 1,.b),by omega,trivial⟩,by (simp; try omega), ?_⟩; constructor <;> (simp (maxSteps:=999999) (disch:=first|exact {}|omega|simp) [zS,z2 h5,vaI3,vaH3,tk]) <;> (try omega))
    ·(refine ⟨⟨(k + 1,.b),by omega,trivial⟩,by (simp; try omega), ?_⟩; constructor <;> (simp (maxSteps:=999999) (disch:=first|exact {}|omega|simp) [zS,z3 h4 h5,vaI3,vaH3]) <;> (try omega))
 ·obtain rfl:k = ps.length:=by omega
  have hv4:vaOk3 v [x,y]:=by rw [← exy]; exact hv3
  have lm:∀ {a b:Nu},NB 13 (6 * MP) a → NB 13 (6 * MP) b → NB 13 (6 * MP) (nleast a b) ∧ NB 13 (6 * MP) (nmost a b):=fun {a b} ha hb=>by
   unfold nleast nmost
   exact ⟨by split <;> assumption,by split <;> assumption⟩
  have key:∀ v,vaOk3 v [x,y] → v = .a ∨ v = .b:=fun v hv=>by cases v <;> simp_all [vaOk3]
  rcases key v hv4 with rfl | rfl
  ·simp (maxSteps:=999999) (disch:=first|exact {}|omega|simp) [zS,vaI3,vaH3,exy]
   refine zC (c286 x y bx bY (by decide) (by decide)) ?_
   simp (maxSteps:=999999) (disch:=first|exact {}|omega|simp) [zS,vaI3,vaH3,exy]
   refine zC (hdp) ?_
   simp (maxSteps:=999999) (disch:=first|exact {}|omega|simp) [zS]
   refine zC (c285 (nleast x y) vp (lm bx bY).1 bp (by decide) (by decide)) ?_
   simp (maxSteps:=999999) (disch:=first|exact {}|omega|simp) [zS,vaI3,vaH3,exy]
   refine zC (c285 x y bx bY (by decide) (by decide)) ?_
   simp (maxSteps:=999999) (disch:=first|exact {}|omega|simp) [zS,vaI3,vaH3,exy]
   refine zC (hdq) ?_
   simp (maxSteps:=999999) (disch:=first|exact {}|omega|simp) [zS]
   refine zC (c286 (nmost x y) vq (lm bx bY).2 bq (by decide) (by decide)) ?_
   have b1:=(lm (lm bx bY).2 bq).1
   have b2:=(lm (lm bx bY).1 bp).2
   have hs:=b1.sub b2
   simp (maxSteps:=999999) (disch:=first|exact {}|omega|simp) [zS]
   refine zC (c128 _ _ b1 b2 (by decide) (by decide)) ?_
   simp (maxSteps:=999999) (disch:=first|exact {}|omega|simp) [zS]
   refine zC (c127 _ (hs.i64 (by decide) (by decide)) (hs.ne (by decide)).1 (hs.ne (by decide)).2) ?_
   simp (maxSteps:=999999) (disch:=first|exact {}|omega|simp) [zS,crS]
  ·simp (maxSteps:=999999) (disch:=first|exact {}|omega|simp) [zS,vaI3,vaH3,exy]
   refine zC (c286 x y bx bY (by decide) (by decide)) ?_
   simp (maxSteps:=999999) (disch:=first|exact {}|omega|simp) [zS,vaI3,vaH3,exy]
   refine zC (hdp) ?_
   simp (maxSteps:=999999) (disch:=first|exact {}|omega|simp) [zS]
   refine zC (c285 (nleast x y) vp (lm bx bY).1 bp (by decide) (by decide)) ?_
   simp (maxSteps:=999999) (disch:=first|exact {}|omega|simp) [zS,vaI3,vaH3,exy]
   refine zC (c285 x y bx bY (by decide) (by decide)) ?_
   simp (maxSteps:=999999) (disch:=first|exact {}|omega|simp) [zS,vaI3,vaH3,exy]
   refine zC (hdq) ?_
   simp (maxSteps:=999999) (disch:=first|exact {}|omega|simp) [zS]
   refine zC (c286 (nmost x y) vq (lm bx bY).2 bq (by decide) (by decide)) ?_
   have b1:=(lm (lm bx bY).2 bq).1
   have b2:=(lm (lm bx bY).1 bp).2
   have hs:=b1.sub b2
   simp (maxSteps:=999999) (disch:=first|exact {}|omega|simp) [zS]
   refine zC (c128 _ _ b1 b2 (by decide) (by decide)) ?_
   simp (maxSteps:=999999) (disch:=first|exact {}|omega|simp) [zS]
   refine zC (c127 _ (hs.i64 (by decide) (by decide)) (hs.ne (by decide)).1 (hs.ne (by decide)).2) ?_
   simp (maxSteps:=999999) (disch:=first|exact {}|omega|simp) [zS,crS]
end Go.Vai
set_option maxHeartbeats 4000000
namespace Go.Vai
theorem crs_of {l:List Pt} {p q:Pt} (h1:polI l = true) (h2:vP p = true) (h3:vP q = true):Crs l p q :=
 ⟨polI_conv h1,(polI_poly h1).2.2.1,vP_bound h2,vP_bound h3⟩
end Go.Vai
namespace Go.Vai
theorem rat_irr {a b:Rat} (h:a * a = 2 * (b * b)):a = 0 ∧ b = 0:=by
 have d1:(a.den:Rat) ≠ 0:=by have:=a.den_nz; exact_mod_cast this
 have d2:(b.den:Rat) ≠ 0:=by have:=b.den_nz; exact_mod_cast this
 have f:∀ a:Rat,a * (a.den:Rat) = (a.num:Rat):=fun a=>by
  have d:(a.den:Rat) ≠ 0:=by have:=a.den_nz; exact_mod_cast this
  have e:a = (a.num:Rat) / (a.den:Rat):=by
   conv=>lhs; rw [← Rat.num_divInt_den a]
   rw [Rat.divInt_eq_div]; rfl
  grind
 have f1:=f a
 have f2:=f b
 have k:((a.num * b.den:Int):Rat) * ((a.num * b.den:Int):Rat) = 2 * (((b.num * a.den:Int):Rat) * ((b.num * a.den:Int):Rat)):=by
  push_cast
  rw [← f1,← f2]
  have:a * ↑a.den * ↑b.den * (a * ↑a.den * ↑b.den) = (a * a) * (↑a.den * ↑b.den * (↑a.den * ↑b.den):Rat):=by grind
  rw [this,h]; grind
 have k2:(a.num * b.den) * (a.num * b.den) = 2 * ((b.num * a.den) * (b.num * a.den)):=by exact_mod_cast k
 have hb0:b.num * (a.den:Int) = 0:=irr k2
 have ha0:a.num * (b.den:Int) = 0:=by
  rw [hb0] at k2
  have h0:a.num * (b.den:Int) * (a.num * (b.den:Int)) = 0:=by omega
  rcases Int.mul_eq_zero.1 h0 with h | h <;> exact h
 have x1:a.num = 0:=by
  rcases Int.mul_eq_zero.1 ha0 with h | h
  ·exact h
  ·exact absurd (by exact_mod_cast h) b.den_nz
 have x2:b.num = 0:=by
  rcases Int.mul_eq_zero.1 hb0 with h | h
  ·exact h
  ·exact absurd (by exact_mod_cast h) a.den_nz
 exact ⟨Rat.num_eq_zero.1 x1,Rat.num_eq_zero.1 x2⟩
def TyN (x:Q2):Prop:=0 < x.a ∧ 2 * (x.b * x.b) < x.a * x.a
theorem TyN.pos {x:Q2} (h:TyN x):Pos x:=by
 obtain ⟨h1,h2⟩:=h
 by_cases hb:x.b < 0
 ·exact pos_left h1 hb h2
 ·exact pos_one (Rat.le_of_lt h1) (by grind) (.inl h1)
theorem pos_type {x:Q2} (h:Pos x):TyN x ∨ TyN ⟨x.b,x.a / 2⟩:=by
 have hneg:∀ y:Q2,y = -x → ¬ Pos y:=fun y e p=>h.anti (by rw [← e]; exact p)
 rcases (Rat.le_total:x.a * x.a ≤ 2 * (x.b * x.b) ∨ 2 * (x.b * x.b) ≤ x.a * x.a) with g | g
 ·have hne:x.a * x.a ≠ 2 * (x.b * x.b):=fun e=>by
   obtain ⟨e1,e2⟩:=rat_irr e
   exact h.ne (Q2.ext' (by rw [e1]; simp) (by rw [e2]; simp))
  have hlt:x.a * x.a < 2 * (x.b * x.b):=by grind
  right
  refine ⟨?_,by simp only; grind⟩
  simp only
  rcases (Rat.le_total:x.b ≤ 0 ∨ 0 ≤ x.b) with hb | hb
  ·exfalso
   have hb':x.b ≠ 0:=by
    intro e; rw [e] at hlt
    have:0 ≤ x.a * x.a:=by
     rcases (Rat.le_total:x.a ≤ 0 ∨ 0 ≤ x.a) with q | q
     ·have:=Rat.mul_nonneg (show 0 ≤ -x.a by grind) (show 0 ≤ -x.a by grind); grind
     ·exact Rat.mul_nonneg q q
    grind
   refine hneg ⟨-x.a,-x.b⟩ rfl ?_
   rcases (Rat.le_total:x.a ≤ 0 ∨ 0 ≤ x.a) with q | q
   ·exact pos_one (by simp only; grind) (by simp only; grind) (.inr (by simp only; grind))
   ·by_cases q0:x.a = 0
    ·exact pos_one (by simp only; grind) (by simp only; grind) (.inr (by simp only; grind))
    ·exact pos_right (by grind) (by grind) (by grind)
  ·have hb':x.b ≠ 0:=by
    intro e; rw [e] at hlt
    have:0 ≤ x.a * x.a:=by
     rcases (Rat.le_total:x.a ≤ 0 ∨ 0 ≤ x.a) with q | q
     ·have:=Rat.mul_nonneg (show 0 ≤ -x.a by grind) (show 0 ≤ -x.a by grind); grind
     ·exact Rat.mul_nonneg q q
    grind
   grind
 ·have hne:x.a * x.a ≠ 2 * (x.b * x.b):=fun e=>by
   obtain ⟨e1,e2⟩:=rat_irr e
   exact h.ne (Q2.ext' (by rw [e1]; simp) (by rw [e2]; simp))
  have hlt:2 * (x.b * x.b) < x.a * x.a:=by grind
  left
  refine ⟨?_,hlt⟩
  have bb:0 ≤ x.b * x.b:=by
   rcases (Rat.le_total:x.b ≤ 0 ∨ 0 ≤ x.b) with q | q
   ·have:=Rat.mul_nonneg (show 0 ≤ -x.b by grind) (show 0 ≤ -x.b by grind); grind
   ·exact Rat.mul_nonneg q q
  rcases (Rat.le_total:x.a ≤ 0 ∨ 0 ≤ x.a) with q | q
  ·exfalso
   have q0:x.a ≠ 0:=by intro e; rw [e] at hlt; grind
   refine hneg ⟨-x.a,-x.b⟩ rfl ?_
   exact TyN.pos ⟨by simp only; grind,by simp only; grind⟩
  ·have q0:x.a ≠ 0:=by intro e; rw [e] at hlt; grind
   grind
theorem sq_lt {u v:Rat} (hv:0 < v) (h:u * u < v * v):-v < u:=by
 rcases (Rat.le_total:u ≤ -v ∨ -v ≤ u) with g | g
 ·exfalso
  have:=Rat.mul_nonneg (show 0 ≤ -v - u by grind) (show 0 ≤ v - u by grind)
  grind
 ·by_cases e:u = -v
  ·exfalso; rw [e] at h; grind
  ·grind
theorem TyN.mul {x y:Q2} (h:TyN x) (h':TyN y):TyN (x * y):=by
 obtain ⟨h1,h2⟩:=h
 obtain ⟨g1,g2⟩:=h'
 have hxy:=Rat.mul_pos h1 g1
 have n1:0 < x.a * x.a - 2 * (x.b * x.b):=by grind
 have n2:0 < y.a * y.a - 2 * (y.b * y.b):=by grind
 have nn:=Rat.mul_pos n1 n2
 have yy:0 ≤ y.b * y.b:=by
  rcases (Rat.le_total:y.b ≤ 0 ∨ 0 ≤ y.b) with q | q
  ·have:=Rat.mul_nonneg (show 0 ≤ -y.b by grind) (show 0 ≤ -y.b by grind); grind
  ·exact Rat.mul_nonneg q q
 have xx:0 ≤ x.b * x.b:=by
  rcases (Rat.le_total:x.b ≤ 0 ∨ 0 ≤ x.b) with q | q
  ·have:=Rat.mul_nonneg (show 0 ≤ -x.b by grind) (show 0 ≤ -x.b by grind); grind
  ·exact Rat.mul_nonneg q q
 have k1:=Rat.mul_nonneg (Rat.le_of_lt n1) yy
 have k2:=Rat.mul_nonneg xx (Rat.le_of_lt n2)
 have hs:=sq_lt (u:=2 * (x.b * y.b)) hxy (by grind)
 refine ⟨?_, ?_⟩
 ·simp only [Q2.mul_a]; grind
 ·simp only [Q2.mul_a,Q2.mul_b]; grind
theorem Pos.times {x y:Q2} (hx:Pos x) (hy:Pos y):Pos (x * y):=by
 rcases pos_type hx with a | a <;> rcases pos_type hy with b | b
 ·exact (a.mul b).pos
 ·have:=(a.mul b).pos.root
  have e:x * y = ⟨2 * (x * (⟨y.b,y.a / 2⟩:Q2)).b,(x * (⟨y.b,y.a / 2⟩:Q2)).a⟩:=Q2.ext' (by simp only [Q2.mul_a,Q2.mul_b]; grind) (by simp only [Q2.mul_a,Q2.mul_b]; grind)
  rw [e]; exact this
 ·have:=(a.mul b).pos.root
  have e:x * y = ⟨2 * ((⟨x.b,x.a / 2⟩:Q2) * y).b,((⟨x.b,x.a / 2⟩:Q2) * y).a⟩:=Q2.ext' (by simp only [Q2.mul_a,Q2.mul_b]; grind) (by simp only [Q2.mul_a,Q2.mul_b]; grind)
  rw [e]; exact this
 ·have:=(a.mul b).pos.scale (c:=2) (by grind)
  have e:x * y = ⟨2 * ((⟨x.b,x.a / 2⟩:Q2) * (⟨y.b,y.a / 2⟩:Q2)).a,2 * ((⟨x.b,x.a / 2⟩:Q2) * (⟨y.b,y.a / 2⟩:Q2)).b⟩:=Q2.ext' (by simp only [Q2.mul_a,Q2.mul_b]; grind) (by simp only [Q2.mul_a,Q2.mul_b]; grind)
  rw [e]; exact this
end Go.Vai
namespace Go.Vai
end Go.Vai
