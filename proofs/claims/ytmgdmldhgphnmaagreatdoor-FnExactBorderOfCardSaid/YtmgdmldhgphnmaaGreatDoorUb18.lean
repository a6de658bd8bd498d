/- Texts of this claim: Zh6, Zp13, Zh7, Zh8. -/
import Derived.Test.YtmgdmldhgphnmaaGreatDoorUb16
set_option linter.unusedVariables false
set_option linter.unusedSimpArgs false
set_option maxHeartbeats 8000000
namespace Go.Vai
theorem c294 (a b:Nu) {K M:Nat} (ha:NB K M a) (hb:NB K M b) (hK:K ≤ 60) (hM:M + M ≤ 4611686018427387904):PC E 294 [.agg (encN a),.agg (encN b)] [.agg (encN (nleast a b))]:=by
 refine PC_start hE Proofs.Tryz.func294 rfl rfl Proofs.Tryz.ntmps294 (by kernel_rfl) (by kernel_rfl) (by simp) ?_
 simp (maxSteps:=999999) (disch:=first|exact {}|omega|simp) [Lw,Lm,Lt,Lo,Ln,allLen]
 refine CallK.of (c167 a b ha hb hK hM) (by first | exact .inl rfl | exact .inr (by simp)) (by simp) ?_
 simp (maxSteps:=999999) (disch:=first|exact {}|omega|simp) [Lw,Lm,Lt,Lo,Ln,allLen]
 have hs:=ha.sub hb
 refine CallK.of (c166 _ (hs.i64 hM hK) (hs.ne hM).1 (hs.ne hM).2) (by first | exact .inl rfl | exact .inr (by simp)) (by simp) ?_
 simp (maxSteps:=999999) (disch:=first|exact {}|omega|simp) [Lw,Lm,Lt,Lo,Ln,allLen]
 (first | refine Gd.dec (fun h1=>?_) (fun h1=>?_) | refine Gd.intro (fun h1=>?_) (fun h1=>?_)) <;> simp (maxSteps:=999999) (disch:=first|exact {}|omega|simp) [Lw,Lm,Lt,Lo,Ln,allLen,h1]
 ·simp [nleast,h1]
 ·simp [nleast,h1]
theorem c293 (a b:Nu) {K M:Nat} (ha:NB K M a) (hb:NB K M b) (hK:K ≤ 60) (hM:M + M ≤ 4611686018427387904):PC E 293 [.agg (encN a),.agg (encN b)] [.agg (encN (nmost a b))]:=by
 refine PC_start hE Proofs.Tryz.func293 rfl rfl Proofs.Tryz.ntmps293 (by kernel_rfl) (by kernel_rfl) (by simp) ?_
 simp (maxSteps:=999999) (disch:=first|exact {}|omega|simp) [Lw,Lm,Lt,Lo,Ln,allLen]
 refine CallK.of (c167 a b ha hb hK hM) (by first | exact .inl rfl | exact .inr (by simp)) (by simp) ?_
 simp (maxSteps:=999999) (disch:=first|exact {}|omega|simp) [Lw,Lm,Lt,Lo,Ln,allLen]
 have hs:=ha.sub hb
 refine CallK.of (c166 _ (hs.i64 hM hK) (hs.ne hM).1 (hs.ne hM).2) (by first | exact .inl rfl | exact .inr (by simp)) (by simp) ?_
 simp (maxSteps:=999999) (disch:=first|exact {}|omega|simp) [Lw,Lm,Lt,Lo,Ln,allLen]
 (first | refine Gd.dec (fun h1=>?_) (fun h1=>?_) | refine Gd.intro (fun h1=>?_) (fun h1=>?_)) <;> simp (maxSteps:=999999) (disch:=first|exact {}|omega|simp) [Lw,Lm,Lt,Lo,Ln,allLen,h1]
 ·simp [nmost,h1]
 ·simp [nmost,h1]
def endW (d:Int) (l:Li) (ps:List Pt) (k:Nat):List Nu:=(endsN l ps k).map (ndot (vec d))
theorem endW_zero {d:Int} {l:Li} {ps:List Pt} {k:Nat} (h:sd l (nth ps k) = 0):endW d l ps (k + 1) = endW d l ps k ++ [ndot (vec d) (nth ps k)]:=by
 have:¬ (0:Int) * sd l (nxt ps k) < 0:=by omega
 simp [endW,endsN,endsF,h]
theorem endW_cross {d:Int} {l:Li} {ps:List Pt} {k:Nat} (h:sd l (nth ps k) * sd l (nxt ps k) < 0):endW d l ps (k + 1) = endW d l ps k ++ [ndot (vec d) (meetP (sideL (nth ps k) (nxt ps k)) l)]:=by
 have h0:sd l (nth ps k) ≠ 0:=by intro e; rw [e] at h; omega
 simp [endW,endsN,endsF,h,h0]
theorem endW_none {d:Int} {l:Li} {ps:List Pt} {k:Nat} (h0:¬ sd l (nth ps k) = 0) (h:¬ sd l (nth ps k) * sd l (nxt ps k) < 0):endW d l ps (k + 1) = endW d l ps k:=by
 simp only [endW,endsN,endsF,if_neg h0,if_neg h,List.append_nil]
theorem endW_len (d:Int) (l:Li) (ps:List Pt):∀ k,(endW d l ps k).length ≤ 2 * k
 | 0=>by simp [endW,endsN]
 | k + 1=>by
  have h1:=endW_len d l ps k
  have h2:(endsF l (nth ps k) (nxt ps k)).length ≤ 2:=by rw [endsF_len]; unfold eN; split <;> split <;> omega
  simp only [endW,endsN,List.length_map,List.length_append] at *
  omega
def vaI3 (v:Va) (l:List Nu):AV:=match v with
 | .n=>.esl
 | .a=>.own 70 0 l.length
 | .b=>.own 87 0 l.length
def vaH3 (v:Va) (l:List Nu):List (Nat × Obj):=match v with
 | .n=>[]
 | .a=>[(70,⟨3,l.map encN⟩)]
 | .b=>[(87,⟨3,l.map encN⟩)]
def vaOk3 (v:Va) (l:List Nu):Prop:=match v with
 | .n=>l = []
 | _=>True
theorem half_has {l:Li} {s:Int} {ps:List Pt}:decide (0 < (partR l s ps).length) = decide (0 < (halfR l s ps).length):=by
 rw [partR_eq]; split
 ·rw [rot0_len]
 ·rfl
theorem Chd.half {l:Li} {ps:List Pt} (h:Chd l ps) (s:Int) (hs:s = 1 ∨ s = -1):PC E 295 [.i (.sl (encPs ps)),.agg (encLi l),.i (.int .i64 s)] [.i (.sl (encPs (halfR l s ps)))] :=
 (c295 ps l s h.pb h.nb h.ok.d0 h.ok.d1 (h.good s) (by decide) (by decide) (by decide) hs (by have:=h.n16; omega)).imm
theorem Chd.endB {l:Li} {ps:List Pt} (h:Chd l ps):∀ e ∈ endsN l ps ps.length,PB (10 + 3) MP e:=by
 intro e he
 rw [← cutN_filter (h.good 1) h.ok h.conv.pk _ (Nat.le_refl _)] at he
 exact cutN_PB h.pb h.nb h.ok.d0 h.ok.d1 (h.good 1) (by decide) _ (Nat.le_refl _) e ((List.mem_filter.1 he).1)
theorem mul_sd {a b:Int} (ha:a = -1 ∨ a = 0 ∨ a = 1) (hb:b = -1 ∨ b = 0 ∨ b = 1):IntKind.i64.wrap (a * b) = a * b:=by
 rcases ha with rfl | rfl | rfl <;> rcases hb with rfl | rfl | rfl <;> decide
theorem cross_ends {ps:List Pt} {p q:Pt} (h:Crs ps p q) (hd:¬ dirR (pminus q p) < 0) (hc:chordB (sideL p q) ps = true) :
  ∃ x y,endW (dirR (pminus q p)) (sideL p q) ps ps.length = [x,y] ∧ NB 13 (6 * MP) x ∧ NB 13 (6 * MP) y ∧ crossB ps p q = crS (ndot (vec (dirR (pminus q p))) p) (ndot (vec (dirR (pminus q p))) q) x y:=by
 have hch:=h.chd
 have hdr:=dirR_range (pminus q p)
 have hv:PB 0 1 (vec (dirR (pminus q p))):=vec_PB (by omega) (by omega)
 obtain ⟨x,y,e1,e2⟩:=hch.two hc
 have hb:=hch.endB
 rw [e1] at hb
 have bx:=dotB hv (hb x (by simp))
 have bY:=dotB hv (hb y (by simp))
 have bp:=dotB hv h.hp
 have bq:=dotB hv h.hq
 refine ⟨_,_,by unfold endW; rw [e1]; rfl,bx,bY, ?_⟩
 unfold crossB
 rw [decide_eq_true (show 0 ≤ dirR (pminus q p) by omega),hc,Bool.true_and,Bool.true_and]
 unfold chX chY
 rw [if_pos hc,if_pos hc]
 rcases e2 with e2 | e2 <;> rw [e2]
 ·exact shB_crS bp.k0 bq.k0 bx.k0 bY.k0
 ·have:=shB_crS bp.k0 bq.k0 bY.k0 bx.k0
  exact this.trans (crS_comm bp.k0 bq.k0 bY.k0 bx.k0)
theorem c227 (ps:List Pt) (p q:Pt) (h:Crs ps p q):PC E 227 [.i (.sl (encPs ps)),.agg (encP p),.agg (encP q)] [.i (.bool (crossB ps p q))]:=by
 have hdr:=dirR_range (pminus q p)
 have hch:=h.chd
 have hn16:=h.n16
 refine PC_start hE Proofs.Tryz.func227 rfl rfl Proofs.Tryz.ntmps227 (by kernel_rfl) (by kernel_rfl) (by simp) ?_
 simp (maxSteps:=999999) (disch:=first|exact {}|omega|simp) [Lw,Lm,Lt,Lo,Ln,allLen]
 refine CallK.of (c165 q p h.hq h.hp (by decide) (by decide)) (by first | exact .inl rfl | exact .inr (by simp)) (by simp) ?_
 simp (maxSteps:=999999) (disch:=first|exact {}|omega|simp) [Lw,Lm,Lt,Lo,Ln,allLen]
 refine CallK.of (c164 _ (h.hq.minus h.hp) (by decide) (by decide)) (by first | exact .inl rfl | exact .inr (by simp)) (by simp) ?_
 simp (maxSteps:=999999) (disch:=first|exact {}|omega|simp) [Lw,Lm,Lt,Lo,Ln,allLen]
 (first | refine Gd.dec (fun h1=>?_) (fun h1=>?_) | refine Gd.intro (fun h1=>?_) (fun h1=>?_)) <;> simp (maxSteps:=999999) (disch:=first|exact {}|omega|simp) [Lw,Lm,Lt,Lo,Ln,allLen,h1]
 ·rw [show crossB ps p q = false by unfold crossB; rw [decide_eq_false (by omega)]; rfl]
 refine CallK.of (c174 p (dirR (pminus q p)) h.hp (by decide) (by decide) (by omega) (by omega)) (by first | exact .inl rfl | exact .inr (by simp)) (by simp) ?_
 rw [show lat p (dirR (pminus q p) % 8) = sideL p q from rfl]
 simp (maxSteps:=999999) (disch:=first|exact {}|omega|simp) [Lw,Lm,Lt,Lo,Ln,allLen]
 refine CallK.of (hch.half 1 (.inl rfl)) (by first | exact .inl rfl | exact .inr (by simp)) (by simp) ?_
 simp (maxSteps:=999999) (disch:=first|exact {}|omega|simp) [Lw,Lm,Lt,Lo,Ln,allLen]
 (first | refine Gd.dec (fun h2=>?_) (fun h2=>?_) | refine Gd.intro (fun h2=>?_) (fun h2=>?_)) <;> simp (maxSteps:=999999) (disch:=first|exact {}|omega|simp) [Lw,Lm,Lt,Lo,Ln,allLen,h2]
 ·have hc:chordB (sideL p q) ps = false:=by unfold chordB; rw [half_has,h2]; simp
  rw [show crossB ps p q = false by unfold crossB; rw [hc]; simp]
 refine CallK.of (hch.half (-1) (.inr rfl)) (by first | exact .inl rfl | exact .inr (by simp)) (by simp) ?_
 simp (maxSteps:=999999) (disch:=first|exact {}|omega|simp) [Lw,Lm,Lt,Lo,Ln,allLen]
 (first | refine Gd.dec (fun h3=>?_) (fun h3=>?_) | refine Gd.intro (fun h3=>?_) (fun h3=>?_)) <;> simp (maxSteps:=999999) (disch:=first|exact {}|omega|simp) [Lw,Lm,Lt,Lo,Ln,allLen,h3]
 ·have hc:chordB (sideL p q) ps = false:=by unfold chordB; rw [half_has (s:=-1),h3]; simp
  rw [show crossB ps p q = false by unfold crossB; rw [hc]; simp]
 have hc:chordB (sideL p q) ps = true:=by
  unfold chordB
  rw [half_has,half_has,decide_eq_true (List.length_pos_iff.2 (by simpa using h2)),decide_eq_true (List.length_pos_iff.2 (by simpa using h3))]; rfl
 obtain ⟨x,y,exy,bx,bY,ecr⟩:=cross_ends h h1 hc
 rw [ecr]
 have hv:PB 0 1 (vec (dirR (pminus q p))):=vec_PB (by omega) (by omega)
 have hdp:PC E 168 [.i (.int .i64 (dirR (pminus q p))),.agg (encP p)] [.agg (encN (ndot (vec (dirR (pminus q p))) p))]:=by
  have:=c168 (dirR (pminus q p)) p h.hp (by decide) (by decide) (by omega) (by omega)
  rwa [Int.emod_eq_of_lt (by omega) (by omega)] at this
 have hdq:PC E 168 [.i (.int .i64 (dirR (pminus q p))),.agg (encP q)] [.agg (encN (ndot (vec (dirR (pminus q p))) q))]:=by
  have:=c168 (dirR (pminus q p)) q h.hq (by decide) (by decide) (by omega) (by omega)
  rwa [Int.emod_eq_of_lt (by omega) (by omega)] at this
 have hdx:∀ e,PB (10 + 3) MP e → PC E 168 [.i (.int .i64 (dirR (pminus q p))),.agg (encP e)] [.agg (encN (ndot (vec (dirR (pminus q p))) e))]:=fun e he=>by
  have:=c168 (dirR (pminus q p)) e he (by decide) (by decide) (by omega) (by omega)
  rwa [Int.emod_eq_of_lt (by omega) (by omega)] at this
 have bp:NB 13 (6 * MP) (ndot (vec (dirR (pminus q p))) p):=dotB hv (up13 h.hp)
 have bq:NB 13 (6 * MP) (ndot (vec (dirR (pminus q p))) q):=dotB hv (up13 h.hq)
 generalize hvp:ndot (vec (dirR (pminus q p))) p = vp at *
 generalize hvq:ndot (vec (dirR (pminus q p))) q = vq at *
 generalize hd:dirR (pminus q p) = d at *
 generalize hl:sideL p q = l at *
 refine XL.by hE (ι:={ k:Nat × Va // k.1 ≤ ps.length ∧ vaOk3 k.2 (endW d l ps k.1) }) (fun k=>⟨[(0,.i (.sl (encPs ps))),(4,.ptr 4 0 0),(5,.ptr 5 0 0),(7,.i (.int .i64 d)),(8,.ptr 8 0 0),(9,vaI3 k.1.2 (endW d l ps k.1.1)),(10,.i (.int .i64 k.1.1))],
   (8,⟨4,[encLi l]⟩) :: (5,⟨6,[encP q]⟩) :: (4,⟨6,[encP p]⟩) :: vaH3 k.1.2 (endW d l ps k.1.1)⟩)
  (fun k=>ps.length - k.1.1) ⟨(0,.n),Nat.zero_le _,rfl⟩ ⟨by simp [vaI3],by simp [vaH3],by simp [vaI3]⟩ (by kernel_rfl) ?_
 rintro ⟨⟨k,v⟩,hk,hv3⟩
 simp only at hk hv3
 by_cases hlt:k < ps.length
 ·have hmod:(k + 1) % ps.length < ps.length:=Nat.mod_lt _ (by omega)
  have hp':=hch.pb _ (nth_mem hlt)
  have hq':PB (10 + 3) MP (nxt ps k):=hch.pb _ (nth_mem hmod)
  have hwl:=endW_len d l ps k
  have hr1:=sd_range l (nth ps k)
  have hr2:=sd_range l (nxt ps k)
  have gk:=hch.good 1 k hlt
  rw [Int.one_mul,Int.one_mul] at gk
  have eq2:(encPs ps)[(k + 1) % ps.length]? = some (encP (nxt ps k)):=encPs_get hmod
  have hne:¬ ps = []:=by rintro rfl; simp at hlt
  have rm:((k:Int) + 1).tmod (ps.length:Int) = (((k + 1) % ps.length:Nat):Int):=by
   rw [Int.tmod_eq_emod_of_nonneg (by omega)]; simp
  have hm0:¬ (((k:Int) + 1) % (ps.length:Int) < 0):=by have:=Int.emod_nonneg ((k:Int) + 1) (b:=(ps.length:Int)) (by omega); omega
  have hm1:(((k:Int) + 1) % (ps.length:Int)).toNat = (k + 1) % ps.length:=by
   have:((k:Int) + 1) % (ps.length:Int) = (((k + 1) % ps.length:Nat):Int):=by simp
   rw [this]; rfl
  have w3:=mul_sd hr1 hr2
  have c1:=cside2 l (nth ps k) hp' (hch.nb.up (K':=13) (by decide)) (by decide) (by decide) hch.ok.d0 hch.ok.d1
  have c2:=cside2 l (nxt ps k) hq' (hch.nb.up (K':=13) (by decide)) (by decide) (by decide) hch.ok.d0 hch.ok.d1
  have z1:=endW_zero (d:=d) (l:=l) (ps:=ps) (k:=k)
  have z2:=endW_cross (d:=d) (l:=l) (ps:=ps) (k:=k)
  have z3:=endW_none (d:=d) (l:=l) (ps:=ps) (k:=k)
  have lP:∀ p:Pt,(encP p).length = 6:=fun _=>rfl
  have lL:∀ l:Li,(encLi l).length = 4:=fun _=>rfl
  have big1:((endW d l ps k).length:Int) + 1 ≤ 140737488355328:=by omega
  have big2:(((endW d l ps k).length:Int) + 1) * 24 ≤ 140737488355328:=by omega
  have tk:List.take (endW d l ps k).length (List.map encN (endW d l ps k)) = List.map encN (endW d l ps k):=List.take_of_length_le (by simp)
  have hmE:sd l (nth ps k) * sd l (nxt ps k) < 0 → PB (10 + 3) MP (meetP (sideL (nth ps k) (nxt ps k)) l):=fun hx=>by
   obtain ⟨g1,g2,g3⟩:=gk hx
   exact (meet_PB g3 hch.nb (sideL_dir _ _).1 (sideL_dir _ _).2 hch.ok.d0 hch.ok.d1 g2).mono (by decide)
  generalize hA:sd l (nth ps k) = A at *
  generalize hB:sd l (nxt ps k) = B at *
  cases v with
  | n =>
   simp only [vaOk3] at hv3
   rw [hv3,List.nil_append] at z1 z2
   rw [hv3] at z3
   simp (maxSteps:=999999) (disch:=first|exact {}|omega|simp) [Lw,Lm,Lt,Lo,Ln,allLen,hlt,encPs_get hlt,vaI3,vaH3,hv3,hne,rm,hm0,hm1,hmod,eq2,lP,lL]
   refine CallK.of (c1) (by first | exact .inl rfl | exact .inr (by simp)) (by simp) ?_
   simp (maxSteps:=999999) (disch:=first|exact {}|omega|simp) [Lw,Lm,Lt,Lo,Ln,allLen,hlt,encPs_get hlt,vaI3,vaH3,hv3,hne,rm,hm0,hm1,hmod,eq2,lP,lL]
   refine CallK.of (c2) (by first | exact .inl rfl | exact .inr (by simp)) (by simp) ?_
   simp (maxSteps:=999999) (disch:=first|exact {}|omega|simp) [Lw,Lm,Lt,Lo,Ln,allLen,hlt,vaI3,vaH3,hv3,lP,lL]
   (first | refine Gd.dec (fun h4=>?_) (fun h4=>?_) | refine Gd.intro (fun h4=>?_) (fun h4=>?_)) <;> simp (maxSteps:=999999) (disch:=first|exact {}|omega|simp) [Lw,Lm,Lt,Lo,Ln,allLen,h4]
   ·refine CallK.of (hdx _ hp') (by first | exact .inl rfl | exact .inr (by simp)) (by simp) ?_
    have h5:¬ A * B < 0:=by rw [h4]; omega
    simp (maxSteps:=999999) (disch:=first|exact {}|omega|simp) [Lw,Lm,Lt,Lo,Ln,allLen,h4,w3,lP,lL,most]
    (refine ⟨⟨(k + 1,.a),by omega,trivial⟩,by (simp; try omega), ?_⟩; constructor <;> (simp (maxSteps:=999999) (disch:=first|exact {}|omega|simp) [Lw,Lm,Lt,Lo,Ln,allLen,z1 h4,vaI3,vaH3,hv3]) <;> (try omega))
   ·simp (maxSteps:=999999) (disch:=first|exact {}|omega|simp) [Lw,Lm,Lt,Lo,Ln,allLen,h4,w3,lP,lL]
    (first | refine Gd.dec (fun h5=>?_) (fun h5=>?_) | refine Gd.intro (fun h5=>?_) (fun h5=>?_)) <;> simp (maxSteps:=999999) (disch:=first|exact {}|omega|simp) [Lw,Lm,Lt,Lo,Ln,allLen,h5]
    ·obtain ⟨g1,g2,g3⟩:=gk h5
     refine CallK.of (c165 (nxt ps k) (nth ps k) hq' hp' (by decide) (by decide)) (by first | exact .inl rfl | exact .inr (by simp)) (by simp) ?_
     simp (maxSteps:=999999) (disch:=first|exact {}|omega|simp) [Lw,Lm,Lt,Lo,Ln,allLen]
     refine CallK.of (c164 _ (hq'.minus hp') (by decide) (by decide)) (by first | exact .inl rfl | exact .inr (by simp)) (by simp) ?_
     simp (maxSteps:=999999) (disch:=first|exact {}|omega|simp) [Lw,Lm,Lt,Lo,Ln,allLen]
     refine CallK.of (c174 (nth ps k) (dirR (pminus (nxt ps k) (nth ps k))) hp' (by decide) (by decide) (by omega) (by have:=dirR_range (pminus (nxt ps k) (nth ps k)); omega)) (by first | exact .inl rfl | exact .inr (by simp)) (by simp) ?_
     rw [thru_eq g1]
     simp (maxSteps:=999999) (disch:=first|exact {}|omega|simp) [Lw,Lm,Lt,Lo,Ln,allLen,lP,lL]
     refine CallK.of (c82 (sideL (nth ps k) (nxt ps k)) l g3 hch.nb (by decide) (by decide) (sideL_dir _ _).1 (sideL_dir _ _).2 hch.ok.d0 hch.ok.d1 g2) (by first | exact .inl rfl | exact .inr (by simp)) (by simp) ?_
     simp (maxSteps:=999999) (disch:=first|exact {}|omega|simp) [Lw,Lm,Lt,Lo,Ln,allLen,lP,lL]
     refine CallK.of (hdx _ (hmE h5)) (by first | exact .inl rfl | exact .inr (by simp)) (by simp) ?_
     simp (maxSteps:=999999) (disch:=first|exact {}|omega|simp) [Lw,Lm,Lt,Lo,Ln,allLen,lP,lL,most]
     (refine ⟨⟨(k + 1,.b),by omega,trivial⟩,by (simp; try omega), ?_⟩; constructor <;> (simp (maxSteps:=999999) (disch:=first|exact {}|omega|simp) [Lw,Lm,Lt,Lo,Ln,allLen,z2 h5,vaI3,vaH3,hv3]) <;> (try omega))
    ·(refine ⟨⟨(k + 1,.n),by omega,z3 h4 h5⟩,by (simp; try omega), ?_⟩; constructor <;> (simp (maxSteps:=999999) (disch:=first|exact {}|omega|simp) [Lw,Lm,Lt,Lo,Ln,allLen,z3 h4 h5,vaI3,vaH3,hv3]) <;> (try omega))
  | a =>
   simp (maxSteps:=999999) (disch:=first|exact {}|omega|simp) [Lw,Lm,Lt,Lo,Ln,allLen,hlt,encPs_get hlt,vaI3,vaH3,hne,rm,hm0,hm1,hmod,eq2,lP,lL]
   refine CallK.of (c1) (by first | exact .inl rfl | exact .inr (by simp)) (by simp) ?_
   simp (maxSteps:=999999) (disch:=first|exact {}|omega|simp) [Lw,Lm,Lt,Lo,Ln,allLen,hlt,encPs_get hlt,vaI3,vaH3,hne,rm,hm0,hm1,hmod,eq2,lP,lL]
   refine CallK.of (c2) (by first | exact .inl rfl | exact .inr (by simp)) (by simp) ?_
   simp (maxSteps:=999999) (disch:=first|exact {}|omega|simp) [Lw,Lm,Lt,Lo,Ln,allLen,hlt,vaI3,vaH3,lP,lL]
   (first | refine Gd.dec (fun h4=>?_) (fun h4=>?_) | refine Gd.intro (fun h4=>?_) (fun h4=>?_)) <;> simp (maxSteps:=999999) (disch:=first|exact {}|omega|simp) [Lw,Lm,Lt,Lo,Ln,allLen,h4]
   ·refine CallK.of (hdx _ hp') (by first | exact .inl rfl | exact .inr (by simp)) (by simp) ?_
    have h5:¬ A * B < 0:=by rw [h4]; omega
    simp (maxSteps:=999999) (disch:=first|exact {}|omega|simp) [Lw,Lm,Lt,Lo,Ln,allLen,h4,w3,lP,lL,most,big1,big2]
    (refine ⟨⟨(k + 1,.a),by omega,trivial⟩,by (simp; try omega), ?_⟩; constructor <;> (simp (maxSteps:=999999) (disch:=first|exact {}|omega|simp) [Lw,Lm,Lt,Lo,Ln,allLen,z1 h4,vaI3,vaH3,tk]) <;> (try omega))
   ·simp (maxSteps:=999999) (disch:=first|exact {}|omega|simp) [Lw,Lm,Lt,Lo,Ln,allLen,h4,w3,lP,lL]
    (first | refine Gd.dec (fun h5=>?_) (fun h5=>?_) | refine Gd.intro (fun h5=>?_) (fun h5=>?_)) <;> simp (maxSteps:=999999) (disch:=first|exact {}|omega|simp) [Lw,Lm,Lt,Lo,Ln,allLen,h5]
    ·obtain ⟨g1,g2,g3⟩:=gk h5
     refine CallK.of (c165 (nxt ps k) (nth ps k) hq' hp' (by decide) (by decide)) (by first | exact .inl rfl | exact .inr (by simp)) (by simp) ?_
     simp (maxSteps:=999999) (disch:=first|exact {}|omega|simp) [Lw,Lm,Lt,Lo,Ln,allLen]
     refine CallK.of (c164 _ (hq'.minus hp') (by decide) (by decide)) (by first | exact .inl rfl | exact .inr (by simp)) (by simp) ?_
     simp (maxSteps:=999999) (disch:=first|exact {}|omega|simp) [Lw,Lm,Lt,Lo,Ln,allLen]
     refine CallK.of (c174 (nth ps k) (dirR (pminus (nxt ps k) (nth ps k))) hp' (by decide) (by decide) (by omega) (by have:=dirR_range (pminus (nxt ps k) (nth ps k)); omega)) (by first | exact .inl rfl | exact .inr (by simp)) (by simp) ?_
     rw [thru_eq g1]
     simp (maxSteps:=999999) (disch:=first|exact {}|omega|simp) [Lw,Lm,Lt,Lo,Ln,allLen,lP,lL]
     refine CallK.of (c82 (sideL (nth ps k) (nxt ps k)) l g3 hch.nb (by decide) (by decide) (sideL_dir _ _).1 (sideL_dir _ _).2 hch.ok.d0 hch.ok.d1 g2) (by first | exact .inl rfl | exact .inr (by simp)) (by simp) ?_
     simp (maxSteps:=999999) (disch:=first|exact {}|omega|simp) [Lw,Lm,Lt,Lo,Ln,allLen,lP,lL]
     refine CallK.of (hdx _ (hmE h5)) (by first | exact .inl rfl | exact .inr (by simp)) (by simp) ?_
     simp (maxSteps:=999999) (disch:=first|exact {}|omega|simp) [Lw,Lm,Lt,Lo,Ln,allLen,lP,lL,most,big1,big2]
     (refine ⟨⟨(k + 1,.a),by omega,trivial⟩,by (simp; try omega), ?_⟩; constructor <;> (simp (maxSteps:=999999) (disch:=first|exact {}|omega|simp) [Lw,Lm,Lt,Lo,Ln,allLen,z2 h5,vaI3,vaH3,tk]) <;> (try omega))
    ·(refine ⟨⟨(k + 1,.a),by omega,trivial⟩,by (simp; try omega), ?_⟩; constructor <;> (simp (maxSteps:=999999) (disch:=first|exact {}|omega|simp) [Lw,Lm,Lt,Lo,Ln,allLen,z3 h4 h5,vaI3,vaH3]) <;> (try omega))
  | b =>
   simp (maxSteps:=999999) (disch:=first|exact {}|omega|simp) [Lw,Lm,Lt,Lo,Ln,allLen,hlt,encPs_get hlt,vaI3,vaH3,hne,rm,hm0,hm1,hmod,eq2,lP,lL]
   refine CallK.of (c1) (by first | exact .inl rfl | exact .inr (by simp)) (by simp) ?_
   simp (maxSteps:=999999) (disch:=first|exact {}|omega|simp) [Lw,Lm,Lt,Lo,Ln,allLen,hlt,encPs_get hlt,vaI3,vaH3,hne,rm,hm0,hm1,hmod,eq2,lP,lL]
   refine CallK.of (c2) (by first | exact .inl rfl | exact .inr (by simp)) (by simp) ?_
   simp (maxSteps:=999999) (disch:=first|exact {}|omega|simp) [Lw,Lm,Lt,Lo,Ln,allLen,hlt,vaI3,vaH3,lP,lL]
   (first | refine Gd.dec (fun h4=>?_) (fun h4=>?_) | refine Gd.intro (fun h4=>?_) (fun h4=>?_)) <;> simp (maxSteps:=999999) (disch:=first|exact {}|omega|simp) [Lw,Lm,Lt,Lo,Ln,allLen,h4]
   ·refine CallK.of (hdx _ hp') (by first | exact .inl rfl | exact .inr (by simp)) (by simp) ?_
    have h5:¬ A * B < 0:=by rw [h4]; omega
    simp (maxSteps:=999999) (disch:=first|exact {}|omega|simp) [Lw,Lm,Lt,Lo,Ln,allLen,h4,w3,lP,lL,most,big1,big2]
    (refine ⟨⟨(k + 1,.b),by omega,trivial⟩,by (simp; try omega), ?_⟩; constructor <;> (simp (maxSteps:=999999) (disch:=first|exact {}|omega|simp) [Lw,Lm,Lt,Lo,Ln,allLen,z1 h4,vaI3,vaH3,tk]) <;> (try omega))
   ·simp (maxSteps:=999999) (disch:=first|exact {}|omega|simp) [Lw,Lm,Lt,Lo,Ln,allLen,h4,w3,lP,lL]
    (first | refine Gd.dec (fun h5=>?_) (fun h5=>?_) | refine Gd.intro (fun h5=>?_) (fun h5=>?_)) <;> simp (maxSteps:=999999) (disch:=first|exact {}|omega|simp) [Lw,Lm,Lt,Lo,Ln,allLen,h5]
    ·obtain ⟨g1,g2,g3⟩:=gk h5
     refine CallK.of (c165 (nxt ps k) (nth ps k) hq' hp' (by decide) (by decide)) (by first | exact .inl rfl | exact .inr (by simp)) (by simp) ?_
     simp (maxSteps:=999999) (disch:=first|exact {}|omega|simp) [Lw,Lm,Lt,Lo,Ln,allLen]
     refine CallK.of (c164 _ (hq'.minus hp') (by decide) (by decide)) (by first | exact .inl rfl | exact .inr (by simp)) (by simp) ?_
     simp (maxSteps:=999999) (disch:=first|exact {}|omega|simp) [Lw,Lm,Lt,Lo,Ln,allLen]
     refine CallK.of (c174 (nth ps k) (dirR (pminus (nxt ps k) (nth ps k))) hp' (by decide) (by decide) (by omega) (by have:=dirR_range (pminus (nxt ps k) (nth ps k)); omega)) (by first | exact .inl rfl | exact .inr (by simp)) (by simp) ?_
     rw [thru_eq g1]
     simp (maxSteps:=999999) (disch:=first|exact {}|omega|simp) [Lw,Lm,Lt,Lo,Ln,allLen,lP,lL]
     refine CallK.of (c82 (sideL (nth ps k) (nxt ps k)) l g3 hch.nb (by decide) (by decide) (sideL_dir _ _).1 (sideL_dir _ _).2 hch.ok.d0 hch.ok.d1 g2) (by first | exact .inl rfl | exact .inr (by simp)) (by simp) ?_
     simp (maxSteps:=999999) (disch:=first|exact {}|omega|simp) [Lw,Lm,Lt,Lo,Ln,allLen,lP,lL]
     refine CallK.of (hdx _ (hmE h5)) (by first | exact .inl rfl | exact .inr (by simp)) (by simp) ?_
     simp (maxSteps:=999999) (disch:=first|exact {}|omega|simp) [Lw,Lm,Lt,Lo,Ln,allLen,lP,lL,most,big1,big2]
     (refine ⟨⟨(k + 1,.b),by omega,trivial⟩,by (simp; try omega), ?_⟩; constructor <;> (simp (maxSteps:=999999) (disch:=first|exact {}|omega|simp) [Lw,Lm,Lt,Lo,Ln,allLen,z2 h5,vaI3,vaH3,tk]) <;> (try omega))
    ·(refine ⟨⟨(k + 1,.b),by omega,trivial⟩,by (simp; try omega), ?_⟩; constructor <;> (simp (maxSteps:=999999) (disch:=first|exact {}|omega|simp) [Lw,Lm,Lt,Lo,Ln,allLen,z3 h4 h5,vaI3,vaH3]) <;> (try omega))
 ·obtain rfl:k = ps.length:=by omega
  have hv4:vaOk3 v [x,y]:=by rw [← exy]; exact hv3
  have lm:∀ {a b:Nu},NB 13 (6 * MP) a → NB 13 (6 * MP) b → NB 13 (6 * MP) (nleast a b) ∧ NB 13 (6 * MP) (nmost a b):=fun {a b} ha hb=>by
   unfold nleast nmost
   exact ⟨by split <;> assumption,by split <;> assumption⟩
  have key:∀ v,vaOk3 v [x,y] → v = .a ∨ v = .b:=fun v hv=>by cases v <;> simp_all [vaOk3]
  rcases key v hv4 with rfl | rfl
  ·simp (maxSteps:=999999) (disch:=first|exact {}|omega|simp) [Lw,Lm,Lt,Lo,Ln,allLen,vaI3,vaH3,exy]
   refine CallK.of (c294 x y bx bY (by decide) (by decide)) (by first | exact .inl rfl | exact .inr (by simp)) (by simp) ?_
   simp (maxSteps:=999999) (disch:=first|exact {}|omega|simp) [Lw,Lm,Lt,Lo,Ln,allLen,vaI3,vaH3,exy]
   refine CallK.of (hdp) (by first | exact .inl rfl | exact .inr (by simp)) (by simp) ?_
   simp (maxSteps:=999999) (disch:=first|exact {}|omega|simp) [Lw,Lm,Lt,Lo,Ln,allLen]
   refine CallK.of (c293 (nleast x y) vp (lm bx bY).1 bp (by decide) (by decide)) (by first | exact .inl rfl | exact .inr (by simp)) (by simp) ?_
   simp (maxSteps:=999999) (disch:=first|exact {}|omega|simp) [Lw,Lm,Lt,Lo,Ln,allLen,vaI3,vaH3,exy]
   refine CallK.of (c293 x y bx bY (by decide) (by decide)) (by first | exact .inl rfl | exact .inr (by simp)) (by simp) ?_
   simp (maxSteps:=999999) (disch:=first|exact {}|omega|simp) [Lw,Lm,Lt,Lo,Ln,allLen,vaI3,vaH3,exy]
   refine CallK.of (hdq) (by first | exact .inl rfl | exact .inr (by simp)) (by simp) ?_
   simp (maxSteps:=999999) (disch:=first|exact {}|omega|simp) [Lw,Lm,Lt,Lo,Ln,allLen]
   refine CallK.of (c294 (nmost x y) vq (lm bx bY).2 bq (by decide) (by decide)) (by first | exact .inl rfl | exact .inr (by simp)) (by simp) ?_
   have b1:=(lm (lm bx bY).2 bq).1
   have b2:=(lm (lm bx bY).1 bp).2
   have hs:=b1.sub b2
   simp (maxSteps:=999999) (disch:=first|exact {}|omega|simp) [Lw,Lm,Lt,Lo,Ln,allLen]
   refine CallK.of (c167 _ _ b1 b2 (by decide) (by decide)) (by first | exact .inl rfl | exact .inr (by simp)) (by simp) ?_
   simp (maxSteps:=999999) (disch:=first|exact {}|omega|simp) [Lw,Lm,Lt,Lo,Ln,allLen]
   refine CallK.of (c166 _ (hs.i64 (by decide) (by decide)) (hs.ne (by decide)).1 (hs.ne (by decide)).2) (by first | exact .inl rfl | exact .inr (by simp)) (by simp) ?_
   simp (maxSteps:=999999) (disch:=first|exact {}|omega|simp) [Lw,Lm,Lt,Lo,Ln,allLen,crS]
  ·simp (maxSteps:=999999) (disch:=first|exact {}|omega|simp) [Lw,Lm,Lt,Lo,Ln,allLen,vaI3,vaH3,exy]
   refine CallK.of (c294 x y bx bY (by decide) (by decide)) (by first | exact .inl rfl | exact .inr (by simp)) (by simp) ?_
   simp (maxSteps:=999999) (disch:=first|exact {}|omega|simp) [Lw,Lm,Lt,Lo,Ln,allLen,vaI3,vaH3,exy]
   refine CallK.of (hdp) (by first | exact .inl rfl | exact .inr (by simp)) (by simp) ?_
   simp (maxSteps:=999999) (disch:=first|exact {}|omega|simp) [Lw,Lm,Lt,Lo,Ln,allLen]
   refine CallK.of (c293 (nleast x y) vp (lm bx bY).1 bp (by decide) (by decide)) (by first | exact .inl rfl | exact .inr (by simp)) (by simp) ?_
   simp (maxSteps:=999999) (disch:=first|exact {}|omega|simp) [Lw,Lm,Lt,Lo,Ln,allLen,vaI3,vaH3,exy]
   refine CallK.of (c293 x y bx bY (by decide) (by decide)) (by first | exact .inl rfl | exact .inr (by simp)) (by simp) ?_
   simp (maxSteps:=999999) (disch:=first|exact {}|omega|simp) [Lw,Lm,Lt,Lo,Ln,allLen,vaI3,vaH3,exy]
   refine CallK.of (hdq) (by first | exact .inl rfl | exact .inr (by simp)) (by simp) ?_
   simp (maxSteps:=999999) (disch:=first|exact {}|omega|simp) [Lw,Lm,Lt,Lo,Ln,allLen]
   refine CallK.of (c294 (nmost x y) vq (lm bx bY).2 bq (by decide) (by decide)) (by first | exact .inl rfl | exact .inr (by simp)) (by simp) ?_
   have b1:=(lm (lm bx bY).2 bq).1
   have b2:=(lm (lm bx bY).1 bp).2
   have hs:=b1.sub b2
   simp (maxSteps:=999999) (disch:=first|exact {}|omega|simp) [Lw,Lm,Lt,Lo,Ln,allLen]
   refine CallK.of (c167 _ _ b1 b2 (by decide) (by decide)) (by first | exact .inl rfl | exact .inr (by simp)) (by simp) ?_
   simp (maxSteps:=999999) (disch:=first|exact {}|omega|simp) [Lw,Lm,Lt,Lo,Ln,allLen]
   refine CallK.of (c166 _ (hs.i64 (by decide) (by decide)) (hs.ne (by decide)).1 (hs.ne (by decide)).2) (by first | exact .inl rfl | exact .inr (by simp)) (by simp) ?_
   simp (maxSteps:=999999) (disch:=first|exact {}|omega|simp) [Lw,Lm,Lt,Lo,Ln,allLen,crS]
end Go.Vai
set_option maxHeartbeats 4000000
namespace Go.Vai
theorem crs_of {l:List Pt} {p q:Pt} (h1:polI l = true) (h2:vP p = true) (h3:vP q = true):Crs l p q :=
 ⟨polI_conv h1,(polI_poly h1).2.2.1,vP_bound h2,vP_bound h3⟩
end Go.Vai
namespace Go.Vai
theorem rat_irr {a b:Rat} (h:a * a = 2 * (b * b)):a = 0 ∧ b = 0:=by
 have d1:(a.den:Rat) ≠ 0:=by have:=a.den_nz; exact_mod_cast this
 have d2:(b.den:Rat) ≠ 0:=by have:=b.den_nz; exact_mod_cast this
 have f:∀ a:Rat,a * (a.den:Rat) = (a.num:Rat):=fun a=>by
  have d:(a.den:Rat) ≠ 0:=by have:=a.den_nz; exact_mod_cast this
  have e:a = (a.num:Rat) / (a.den:Rat):=by
   conv=>lhs; rw [← Rat.num_divInt_den a]
   rw [Rat.divInt_eq_div]; rfl
  grind
 have f1:=f a
 have f2:=f b
 have k:((a.num * b.den:Int):Rat) * ((a.num * b.den:Int):Rat) = 2 * (((b.num * a.den:Int):Rat) * ((b.num * a.den:Int):Rat)):=by
  push_cast
  rw [← f1,← f2]
  have:a * ↑a.den * ↑b.den * (a * ↑a.den * ↑b.den) = (a * a) * (↑a.den * ↑b.den * (↑a.den * ↑b.den):Rat):=by grind
  rw [this,h]; grind
 have k2:(a.num * b.den) * (a.num * b.den) = 2 * ((b.num * a.den) * (b.num * a.den)):=by exact_mod_cast k
 have hb0:b.num * (a.den:Int) = 0:=irr k2
 have ha0:a.num * (b.den:Int) = 0:=by
  rw [hb0] at k2
  have h0:a.num * (b.den:Int) * (a.num * (b.den:Int)) = 0:=by omega
  rcases Int.mul_eq_zero.1 h0 with h | h <;> exact h
 have x1:a.num = 0:=by
  rcases Int.mul_eq_zero.1 ha0 with h | h
  ·exact h
  ·exact absurd (by exact_mod_cast h) b.den_nz
 have x2:b.num = 0:=by
  rcases Int.mul_eq_zero.1 hb0 with h | h
  ·exact h
  ·exact absurd (by exact_mod_cast h) a.den_nz
 exact ⟨Rat.num_eq_zero.1 x1,Rat.num_eq_zero.1 x2⟩
def TyN (x:Q2):Prop:=0 < x.a ∧ 2 * (x.b * x.b) < x.a * x.a
theorem TyN.pos {x:Q2} (h:TyN x):Pos x:=by
 obtain ⟨h1,h2⟩:=h
 by_cases hb:x.b < 0
 ·exact pos_left h1 hb h2
 ·exact pos_one (Rat.le_of_lt h1) (by grind) (.inl h1)
theorem pos_type {x:Q2} (h:Pos x):TyN x ∨ TyN ⟨x.b,x.a / 2⟩:=by
 have hneg:∀ y:Q2,y = -x → ¬ Pos y:=fun y e p=>h.anti (by rw [← e]; exact p)
 rcases (Rat.le_total:x.a * x.a ≤ 2 * (x.b * x.b) ∨ 2 * (x.b * x.b) ≤ x.a * x.a) with g | g
 ·have hne:x.a * x.a ≠ 2 * (x.b * x.b):=fun e=>by
   obtain ⟨e1,e2⟩:=rat_irr e
   exact h.ne (Q2.ext' (by rw [e1]; simp) (by rw [e2]; simp))
  have hlt:x.a * x.a < 2 * (x.b * x.b):=by grind
  right
  refine ⟨?_,by simp only; grind⟩
  simp only
  rcases (Rat.le_total:x.b ≤ 0 ∨ 0 ≤ x.b) with hb | hb
  ·exfalso
   have hb':x.b ≠ 0:=by
    intro e; rw [e] at hlt
    have:0 ≤ x.a * x.a:=by
     rcases (Rat.le_total:x.a ≤ 0 ∨ 0 ≤ x.a) with q | q
     ·have:=Rat.mul_nonneg (show 0 ≤ -x.a by grind) (show 0 ≤ -x.a by grind); grind
     ·exact Rat.mul_nonneg q q
    grind
   refine hneg ⟨-x.a,-x.b⟩ rfl ?_
   rcases (Rat.le_total:x.a ≤ 0 ∨ 0 ≤ x.a) with q | q
   ·exact pos_one (by simp only; grind) (by simp only; grind) (.inr (by simp only; grind))
   ·by_cases q0:x.a = 0
    ·exact pos_one (by simp only; grind) (by simp only; grind) (.inr (by simp only; grind))
    ·exact pos_right (by grind) (by grind) (by grind)
  ·have hb':x.b ≠ 0:=by
    intro e; rw [e] at hlt
    have:0 ≤ x.a * x.a:=by
     rcases (Rat.le_total:x.a ≤ 0 ∨ 0 ≤ x.a) with q | q
     ·have:=Rat.mul_nonneg (show 0 ≤ -x.a by grind) (show 0 ≤ -x.a by grind); grind
     ·exact Rat.mul_nonneg q q
    grind
   grind
 ·have hne:x.a * x.a ≠ 2 * (x.b * x.b):=fun e=>by
   obtain ⟨e1,e2⟩:=rat_irr e
   exact h.ne (Q2.ext' (by rw [e1]; simp) (by rw [e2]; simp))
  have hlt:2 * (x.b * x.b) < x.a * x.a:=by grind
  left
  refine ⟨?_,hlt⟩
  have bb:0 ≤ x.b * x.b:=by
   rcases (Rat.le_total:x.b ≤ 0 ∨ 0 ≤ x.b) with q | q
   ·have:=Rat.mul_nonneg (show 0 ≤ -x.b by grind) (show 0 ≤ -x.b by grind); grind
   ·exact Rat.mul_nonneg q q
  rcases (Rat.le_total:x.a ≤ 0 ∨ 0 ≤ x.a) with q | q
  ·exfalso
   have q0:x.a ≠ 0:=by intro e; rw [e] at hlt; grind
   refine hneg ⟨-x.a,-x.b⟩ rfl ?_
   exact TyN.pos ⟨by simp only; grind,by simp only; grind⟩
  ·have q0:x.a ≠ 0:=by intro e; rw [e] at hlt; grind
   grind
theorem sq_lt {u v:Rat} (hv:0 < v) (h:u * u < v * v):-v < u:=by
 rcases (Rat.le_total:u ≤ -v ∨ -v ≤ u) with g | g
 ·exfalso
  have:=Rat.mul_nonneg (show 0 ≤ -v - u by grind) (show 0 ≤ v - u by grind)
  grind
 ·by_cases e:u = -v
  ·exfalso; rw [e] at h; grind
  ·grind
theorem TyN.mul {x y:Q2} (h:TyN x) (h':TyN y):TyN (x * y):=by
 obtain ⟨h1,h2⟩:=h
 obtain ⟨g1,g2⟩:=h'
 have hxy:=Rat.mul_pos h1 g1
 have n1:0 < x.a * x.a - 2 * (x.b * x.b):=by grind
 have n2:0 < y.a * y.a - 2 * (y.b * y.b):=by grind
 have nn:=Rat.mul_pos n1 n2
 have yy:0 ≤ y.b * y.b:=by
  rcases (Rat.le_total:y.b ≤ 0 ∨ 0 ≤ y.b) with q | q
  ·have:=Rat.mul_nonneg (show 0 ≤ -y.b by grind) (show 0 ≤ -y.b by grind); grind
  ·exact Rat.mul_nonneg q q
 have xx:0 ≤ x.b * x.b:=by
  rcases (Rat.le_total:x.b ≤ 0 ∨ 0 ≤ x.b) with q | q
  ·have:=Rat.mul_nonneg (show 0 ≤ -x.b by grind) (show 0 ≤ -x.b by grind); grind
  ·exact Rat.mul_nonneg q q
 have k1:=Rat.mul_nonneg (Rat.le_of_lt n1) yy
 have k2:=Rat.mul_nonneg xx (Rat.le_of_lt n2)
 have hs:=sq_lt (u:=2 * (x.b * y.b)) hxy (by grind)
 refine ⟨?_, ?_⟩
 ·simp only [Q2.mul_a]; grind
 ·simp only [Q2.mul_a,Q2.mul_b]; grind
theorem Pos.times {x y:Q2} (hx:Pos x) (hy:Pos y):Pos (x * y):=by
 rcases pos_type hx with a | a <;> rcases pos_type hy with b | b
 ·exact (a.mul b).pos
 ·have:=(a.mul b).pos.root
  have e:x * y = ⟨2 * (x * (⟨y.b,y.a / 2⟩:Q2)).b,(x * (⟨y.b,y.a / 2⟩:Q2)).a⟩:=Q2.ext' (by simp only [Q2.mul_a,Q2.mul_b]; grind) (by simp only [Q2.mul_a,Q2.mul_b]; grind)
  rw [e]; exact this
 ·have:=(a.mul b).pos.root
  have e:x * y = ⟨2 * ((⟨x.b,x.a / 2⟩:Q2) * y).b,((⟨x.b,x.a / 2⟩:Q2) * y).a⟩:=Q2.ext' (by simp only [Q2.mul_a,Q2.mul_b]; grind) (by simp only [Q2.mul_a,Q2.mul_b]; grind)
  rw [e]; exact this
 ·have:=(a.mul b).pos.scale (c:=2) (by grind)
  have e:x * y = ⟨2 * ((⟨x.b,x.a / 2⟩:Q2) * (⟨y.b,y.a / 2⟩:Q2)).a,2 * ((⟨x.b,x.a / 2⟩:Q2) * (⟨y.b,y.a / 2⟩:Q2)).b⟩:=Q2.ext' (by simp only [Q2.mul_a,Q2.mul_b]; grind) (by simp only [Q2.mul_a,Q2.mul_b]; grind)
  rw [e]; exact this
end Go.Vai
namespace Go.Vai
def Alt (s:Nat → Int) (n:Nat):Prop:=∃ i j k m,i < j ∧ j < k ∧ k < m ∧ m ≤ n ∧ s i ≠ 0 ∧ s j = -s i ∧ s k = -s j ∧ s m = -s k
theorem per_mul {s:Nat → Int} {n:Nat} (h:∀ i,s (i + n) = s i) (c:Nat):∀ i,s (i + n * c) = s i:=by
 induction c with
 | zero=>intro i; rfl
 | succ c ih=>intro i; rw [Nat.mul_succ,← Nat.add_assoc,h,ih]
theorem per_mod {s:Nat → Int} {n:Nat} (h:∀ i,s (i + n) = s i) (i c:Nat):s (i + c) = s (i + c % n):=by
 conv=>lhs; rw [← Nat.mod_add_div c n]
 rw [← Nat.add_assoc,per_mul h]
theorem Alt.turn {s:Nat → Int} {n:Nat} (hn:0 < n) (h:∀ i,s (i + n) = s i) (c0:Nat) (ha:Alt (fun i=>s (i + c0)) n):Alt s n:=by
 obtain ⟨i,j,k,m,h1,h2,h3,h4,a0,a1,a2,a3⟩:=ha
 simp only at a0 a1 a2 a3
 rw [per_mod h i c0] at a0 a1
 rw [per_mod h j c0] at a1 a2
 rw [per_mod h k c0] at a2 a3
 rw [per_mod h m c0] at a3
 have hc:c0 % n < n:=Nat.mod_lt _ hn
 generalize c0 % n = c at *
 have back:∀ x,n < x + c → s (x + c - n) = s (x + c):=fun x hx=>by
  have:=h (x + c - n)
  rw [show x + c - n + n = x + c by omega] at this; exact this.symm
 have hm0:¬ (m = n ∧ i = 0):=by
  rintro ⟨rfl,rfl⟩
  have e:s (m + c) = s c:=by rw [Nat.add_comm,h]
  rw [e] at a3
  rw [Nat.zero_add] at a0 a1
  omega
 by_cases hm:m + c ≤ n
 ·exact ⟨i + c,j + c,k + c,m + c,by omega,by omega,by omega,hm,a0,a1,a2,a3⟩
 ·have bm:=back m (by omega)
  by_cases hk:k + c ≤ n
  ·exact ⟨m + c - n,i + c,j + c,k + c,by omega,by omega,by omega,hk,by rw [bm]; omega,by rw [bm]; omega,a1,a2⟩
  ·have bk:=back k (by omega)
   by_cases hj:j + c ≤ n
   ·exact ⟨k + c - n,m + c - n,i + c,j + c,by omega,by omega,by omega,hj,by rw [bk]; omega,by rw [bm,bk]; omega,by rw [bm]; omega,a1⟩
   ·have bj:=back j (by omega)
    by_cases hi:i + c ≤ n
    ·exact ⟨j + c - n,k + c - n,m + c - n,i + c,by omega,by omega,by omega,hi,by rw [bj]; omega,by rw [bk,bj]; omega,by rw [bm,bk]; omega,by rw [bm]; omega⟩
    ·have bi:=back i (by omega)
     exact ⟨i + c - n,j + c - n,k + c - n,m + c - n,by omega,by omega,by omega,by omega,by rw [bi]; exact a0,by rw [bj,bi]; exact a1,by rw [bk,bj]; exact a2,by rw [bm,bk]; exact a3⟩
def chN (s:Nat → Int):Nat → Nat
 | 0=>0
 | k + 1=>chN s k + if s k * s (k + 1) < 0 then 1 else 0
theorem chN_find {s:Nat → Int} {c:Nat}:∀ {n:Nat},c < chN s n → ∃ i,i < n ∧ s i * s (i + 1) < 0 ∧ c ≤ chN s i
 | 0,h=>by simp [chN] at h
 | n + 1,h=>by
  simp only [chN] at h
  by_cases hc:s n * s (n + 1) < 0
  ·rw [if_pos hc] at h
   exact ⟨n,by omega,hc,by omega⟩
  ·rw [if_neg hc] at h
   obtain ⟨i,h1,h2,h3⟩:=chN_find (n:=n) (c:=c) (by omega)
   exact ⟨i,by omega,h2,h3⟩
def Sg (s:Nat → Int):Prop:=∀ i,s i = -1 ∨ s i = 0 ∨ s i = 1
theorem Sg.opp {s:Nat → Int} (h:Sg s) {i j:Nat} (hp:s i * s j < 0):s i ≠ 0 ∧ s j = -s i:=by
 rcases h i with e | e | e <;> rcases h j with g | g | g <;> rw [e,g] at hp ⊢ <;> simp at hp ⊢
theorem chN_two {s:Nat → Int} {n:Nat} (hs:Sg s) (h:¬ Alt s n):chN s n ≤ 2:=by
 refine Classical.byContradiction fun hc=>h ?_
 obtain ⟨i3,l3,c3,r3⟩:=chN_find (s:=s) (n:=n) (c:=2) (by omega)
 obtain ⟨i2,l2,c2,r2⟩:=chN_find (s:=s) (n:=i3) (c:=1) (by omega)
 obtain ⟨i1,l1,c1,r1⟩:=chN_find (s:=s) (n:=i2) (c:=0) (by omega)
 obtain ⟨z1,e1⟩:=hs.opp c1
 obtain ⟨z2,e2⟩:=hs.opp c2
 obtain ⟨z3,e3⟩:=hs.opp c3
 have d1:=hs i1
 have d2:=hs i2
 have d3:=hs i3
 by_cases g2:s i2 = s i1
 ·have hne:i1 + 1 ≠ i2:=by rintro rfl; omega
  exact ⟨i1,i1 + 1,i2,i2 + 1,by omega,by omega,by omega,by omega,z1,e1,by omega,e2⟩
 ·have g2':s i2 = -s i1:=by omega
  by_cases g3:s i3 = s i1
  ·exact ⟨i1,i2,i2 + 1,i3 + 1,by omega,by omega,by omega,by omega,z1,g2',e2,by omega⟩
  ·have hne:i2 + 1 ≠ i3:=by rintro rfl; omega
   exact ⟨i1,i2,i2 + 1,i3,by omega,by omega,by omega,by omega,z1,g2',e2,by omega⟩
def Cvx (ps:List Pt):Prop:=∀ l,Lok l → ¬ Alt (fun i=>sd l (pt ps i)) ps.length
theorem pt_per (ps:List Pt) (i:Nat):pt ps (i + ps.length) = pt ps i:=by unfold pt; rw [Nat.add_mod_right]
theorem sg_sd (l:Li) (ps:List Pt):Sg fun i=>sd l (pt ps i):=fun i=>sd_range l (pt ps i)
theorem nth_rot' {l:List Pt} {c:Nat} (hc:c ≤ l.length) (k:Nat) (h0:0 < l.length):pt (l.drop c ++ l.take c) k = pt l (k + c):=by
 have hlen:(l.drop c ++ l.take c).length = l.length:=by simp; omega
 unfold pt
 rw [hlen,nth_rot hc (Nat.mod_lt _ h0),Nat.mod_add_mod]
theorem Cvx.rot {ps:List Pt} (h:Cvx ps):Cvx (rot0 ps):=by
 intro l hl ha
 by_cases h0:0 < ps.length
 ·refine h l hl ?_
  rw [rot0_len] at ha
  have e:(fun i=>sd l (pt (rot0 ps) i)) = fun i=>sd l (pt ps (i + least ps)):=by
   funext i
   unfold rot0
   rw [nth_rot' (least_le ps) i h0]
  rw [e] at ha
  exact Alt.turn (s:=fun i=>sd l (pt ps i)) h0 (fun i=>by simp only [pt_per]) (least ps) ha
 ·rw [rot0_len] at ha
  obtain ⟨i,j,k,m,h1,h2,h3,h4,-⟩:=ha
  omega
theorem sq_unit {d:Int} (h0:0 ≤ d) (h1:d ≤ 15):∃ i:Q2,(val (vec d).x * val (vec d).x + val (vec d).y * val (vec d).y) * i = 1:=by
 have hd:=sq_Dv h0 h1
 have h1:val (⟨1,0,0⟩:Nu) = 1:=by apply Q2.ext' <;> simp [val,pr,pw] <;> grind
 have h2:=val_ndiv (x:=⟨1,0,0⟩) (by simp) hd
 rw [val_ndot (vec_k d) (vec_k d)] at h2
 exact ⟨_,by rw [Lean.Grind.CommSemiring.mul_comm]; rw [h2]; exact h1⟩
theorem cross_ratio {L:Li} {p q x:Pt} (hL:Lok L) (o1:on L p) (o2:on L q) (o3:on L x) (m k:Int):(fv m x - fv m p) * (fv k q - fv k p) = (fv m q - fv m p) * (fv k x - fv k p):=by
 obtain ⟨i,hi⟩:=sq_unit (d:=L.dir + 4) (by have:=hL.d0; omega) (by have:=hL.d1; omega)
 unfold on at o1 o2 o3
 generalize val (vec (L.dir + 4)).x = nx at *
 generalize val (vec (L.dir + 4)).y = ny at *
 have c1:nx * ((val q.x - val p.x) * (val x.y - val p.y) - (val q.y - val p.y) * (val x.x - val p.x)) = 0:=by grind
 have c2:ny * ((val q.x - val p.x) * (val x.y - val p.y) - (val q.y - val p.y) * (val x.x - val p.x)) = 0:=by grind
 have c:(val q.x - val p.x) * (val x.y - val p.y) - (val q.y - val p.y) * (val x.x - val p.x) = 0:=by grind
 unfold fv
 grind
theorem comb {X P Q u v w:Q2} {a b c:Int} (hu:Pos u) (hv:Pos v) (hw:Pos w) (he:X * w = P * u + Q * v) (hx:SgnP a X) (hp:SgnP b P) (hq:SgnP c Q) (ha:a ≠ 0):b = a ∨ c = a:=by
 refine Classical.byContradiction fun hno=>?_
 have n1:b ≠ a:=fun e=>hno (.inl e)
 have n2:c ≠ a:=fun e=>hno (.inr e)
 have key:∀ {X P Q:Q2},X * w = P * u + Q * v → Pos X → (P = 0 ∨ Pos (-P)) → (Q = 0 ∨ Pos (-Q)) → False:=by
  intro X P Q he hX hP hQ
  have h1:=hX.times hw
  rw [he] at h1
  rcases hP with rfl | hP <;> rcases hQ with rfl | hQ
  ·exact h1.ne (by grind)
  ·have:=h1.add (hQ.times hv)
   exact this.ne (by grind)
  ·have:=h1.add (hP.times hu)
   exact this.ne (by grind)
  ·have:=(h1.add (hP.times hu)).add (hQ.times hv)
   exact this.ne (by grind)
 rcases hx with ⟨rfl,hX⟩ | ⟨rfl,hX⟩ | ⟨rfl,hX⟩
 ·refine key he hX ?_ ?_
  ·rcases hp with ⟨e,h⟩ | ⟨e,h⟩ | ⟨e,h⟩
   ·exact (n1 e).elim
   ·exact .inl h
   ·exact .inr h
  ·rcases hq with ⟨e,h⟩ | ⟨e,h⟩ | ⟨e,h⟩
   ·exact (n2 e).elim
   ·exact .inl h
   ·exact .inr h
 ·exact ha rfl
 ·refine key (X:=-X) (P:=-P) (Q:=-Q) (by grind) hX ?_ ?_
  ·rcases hp with ⟨e,h⟩ | ⟨e,h⟩ | ⟨e,h⟩
   ·exact .inr (by rwa [show - -P = P by grind])
   ·exact .inl (by rw [h]; grind)
   ·exact (n1 e).elim
  ·rcases hq with ⟨e,h⟩ | ⟨e,h⟩ | ⟨e,h⟩
   ·exact .inr (by rwa [show - -Q = Q by grind])
   ·exact .inl (by rw [h]; grind)
   ·exact (n2 e).elim
theorem between {L l0 l:Li} {p q x:Pt} (hL:Lok L) (h0:Lok l0) (hl:Lok l) (pp:PK p) (pq:PK q) (px:PK x) (o1:on L p) (o2:on L q) (o3:on L x) (hx:on l0 x) (hs:sd l0 p * sd l0 q < 0) (hne:sd l x ≠ 0) :
  sd l p = sd l x ∨ sd l q = sd l x:=by
 have a1:=sd_sgn h0 pp
 have a2:=sd_sgn h0 pq
 have b1:=sd_sgn hl pp
 have b2:=sd_sgn hl pq
 have b3:=sd_sgn hl px
 have hx0:fv (l0.dir + 4) x = val l0.off:=hx
 have cr:=cross_ratio hL o1 o2 o3 (l.dir + 4) (l0.dir + 4)
 rw [hx0] at cr
 rcases a1 with ⟨e1,p1⟩ | ⟨e1,p1⟩ | ⟨e1,p1⟩
 ·rcases a2 with ⟨e2,p2⟩ | ⟨e2,p2⟩ | ⟨e2,p2⟩
  ·rw [e1,e2] at hs; simp at hs
  ·rw [e1,e2] at hs; simp at hs
  ·exact comb (u:=-(fv (l0.dir + 4) q - val l0.off)) (v:=fv (l0.dir + 4) p - val l0.off) (w:=(fv (l0.dir + 4) p - val l0.off) + -(fv (l0.dir + 4) q - val l0.off)) p2 p1 (p1.add p2) (by grind) b3 b1 b2 hne
 ·rw [e1] at hs; simp at hs
 ·rcases a2 with ⟨e2,p2⟩ | ⟨e2,p2⟩ | ⟨e2,p2⟩
  ·exact comb (u:=fv (l0.dir + 4) q - val l0.off) (v:=-(fv (l0.dir + 4) p - val l0.off)) (w:=(fv (l0.dir + 4) q - val l0.off) + -(fv (l0.dir + 4) p - val l0.off)) p2 p1 (p2.add p1) (by grind) b3 b1 b2 hne
  ·rw [e1,e2] at hs; simp at hs
  ·rw [e1,e2] at hs; simp at hs
def cutX (l0:Li) (ps:List Pt) (e:Nat × Bool):Pt:=if e.2 = true then meetP (sideL (nth ps e.1) (nxt ps e.1)) l0 else nth ps e.1
def cutP (l0:Li) (s:Int) (ps:List Pt):Nat → List (Nat × Bool)
 | 0=>[]
 | k + 1=>cutP l0 s ps k ++ ((if 0 ≤ s * sd l0 (nth ps k) then [(k,false)] else []) ++ (if s * sd l0 (nth ps k) * (s * sd l0 (nxt ps k)) < 0 then [(k,true)] else []))
theorem cutP_map (l0:Li) (s:Int) (ps:List Pt):∀ k,(cutP l0 s ps k).map (cutX l0 ps) = cutN l0 s ps k
 | 0=>rfl
 | k + 1=>by
  simp only [cutP,cutN,cutF,List.map_append,cutP_map l0 s ps k]
  congr 2
  ·split <;> rfl
  ·split <;> rfl
def cpos (e:Nat × Bool):Nat:=2 * e.1 + if e.2 = true then 1 else 0
theorem cutP_bound (l0:Li) (s:Int) (ps:List Pt):∀ k e,e ∈ cutP l0 s ps k → e.1 < k ∧ (e.2 = true → s * sd l0 (nth ps e.1) * (s * sd l0 (nxt ps e.1)) < 0)
 | 0,e,h=>by simp [cutP] at h
 | k + 1,e,h=>by
  simp only [cutP,List.mem_append] at h
  rcases h with h | h | h
  ·have:=cutP_bound l0 s ps k e h
   exact ⟨by omega,this.2⟩
  ·split at h
   ·obtain rfl:=List.mem_singleton.1 h; exact ⟨by simp,by simp⟩
   ·simp at h
  ·split at h
   ·rename_i hx; obtain rfl:=List.mem_singleton.1 h; exact ⟨by simp,fun _=>hx⟩
   ·simp at h
theorem cutP_sorted (l0:Li) (s:Int) (ps:List Pt):∀ k,(cutP l0 s ps k).Pairwise fun a b=>cpos a < cpos b
 | 0=>List.Pairwise.nil
 | k + 1=>by
  simp only [cutP]
  rw [List.pairwise_append]
  refine ⟨cutP_sorted l0 s ps k, ?_,fun a ha b hb=>?_⟩
  ·split <;> split <;> simp [cpos]
  ·have h1:=(cutP_bound l0 s ps k a ha).1
   have ha':cpos a < 2 * k:=by unfold cpos; split <;> omega
   have hb':2 * k ≤ cpos b:=by
    rcases List.mem_append.1 hb with hb | hb
    ·split at hb
     ·obtain rfl:=List.mem_singleton.1 hb; simp [cpos]
     ·simp at hb
    ·split at hb
     ·obtain rfl:=List.mem_singleton.1 hb; simp [cpos]
     ·simp at hb
   omega
theorem Alt.strict {s:Nat → Int} {n:Nat} (h:∀ i,s (i + n) = s i) (ha:Alt s n):∃ i j k m,i < j ∧ j < k ∧ k < m ∧ m < n ∧ s i ≠ 0 ∧ s j = -s i ∧ s k = -s j ∧ s m = -s k:=by
 obtain ⟨i,j,k,m,h1,h2,h3,h4,a0,a1,a2,a3⟩:=ha
 by_cases hm:m < n
 ·exact ⟨i,j,k,m,h1,h2,h3,hm,a0,a1,a2,a3⟩
 ·have hmn:m = n:=by omega
  have e0:s m = s 0:=by rw [hmn]; have:=h 0; rwa [Nat.zero_add] at this
  have hi:i ≠ 0:=by intro hi; rw [hi] at a0 a1; omega
  exact ⟨0,i,j,k,by omega,h1,h2,by omega,by omega,by omega,by omega,by omega⟩
theorem Cvx.cut {K M:Nat} {ps:List Pt} {l0:Li} {s:Int} (h:Cvx ps) (hg:Good K M l0 s ps) (h0:Lok l0) (hs:s = 1 ∨ s = -1) (hp:∀ p ∈ ps,PK p):Cvx (cutN l0 s ps ps.length):=by
 intro l hl ha
 obtain ⟨i,j,k,m,h1,h2,h3,h4,a0,a1,a2,a3⟩:=ha.strict fun i=>by simp only [pt_per]
 generalize hC:cutN l0 s ps ps.length = C at *
 rw [pt_lt (show i < C.length by omega)] at a0 a1
 rw [pt_lt (show j < C.length by omega)] at a1 a2
 rw [pt_lt (show k < C.length by omega)] at a2 a3
 rw [pt_lt h4] at a3
 have hmap:=cutP_map l0 s ps ps.length
 rw [hC] at hmap
 have hsort:=cutP_sorted l0 s ps ps.length
 have hbd:=cutP_bound l0 s ps ps.length
 generalize cutP l0 s ps ps.length = D at *
 have hlen:D.length = C.length:=by rw [← hmap]; simp
 rw [List.pairwise_iff_getElem] at hsort
 have pick:∀ x,x < C.length → sd l (nth C x) ≠ 0 → ∃ g e,D[x]? = some e ∧ sd l (pt ps g) = sd l (nth C x) ∧ cpos e / 2 ≤ g ∧ g ≤ (cpos e + 1) / 2 ∧ g ≤ ps.length:=by
  intro x hx hz
  have hxD:x < D.length:=by omega
  have e1:nth C x = cutX l0 ps D[x]:=by
   rw [nth_eq hx]
   simp only [← hmap,List.getElem_map]
  rcases hDx:D[x] with ⟨c,b⟩
  have hm:D[x] ∈ D:=List.getElem_mem _
  rw [hDx] at e1 hm
  obtain ⟨c1,c2⟩:=hbd _ hm
  simp only at c1 c2
  have hD:D[x]? = some (c,b):=by rw [List.getElem?_eq_getElem hxD,hDx]
  cases b with
  | false =>
   refine ⟨c,(c,false),hD, ?_,by simp [cpos],by simp [cpos]; omega,by omega⟩
   rw [e1,pt_lt c1]; rfl
  | true =>
   have hx2:=c2 rfl
   obtain ⟨g1,g2,g3⟩:=hg c c1 hx2
   have hmod:(c + 1) % ps.length < ps.length:=Nat.mod_lt _ (by omega)
   have pp:=hp _ (nth_mem c1)
   have pq:PK (nxt ps c):=hp _ (nth_mem hmod)
   have hL:Lok (sideL (nth ps c) (nxt ps c)):=sideL_ok pp
   obtain ⟨o1,o2⟩:=side_ends pp pq g1
   obtain ⟨o3,o4⟩:=meet_on hL h0 g2
   have hsd:sd l0 (nth ps c) * sd l0 (nxt ps c) < 0:=by
    rcases hs with rfl | rfl
    ·simpa using hx2
    ·simpa [Int.neg_mul_neg] using hx2
   have hcx:nth C x = meetP (sideL (nth ps c) (nxt ps c)) l0:=by rw [e1]; rfl
   rw [hcx] at hz ⊢
   rcases between hL h0 hl pp pq (meet_k hL h0) o1 o2 o3 o4 hsd hz with h | h
   ·exact ⟨c,(c,true),hD,by rw [pt_lt c1]; exact h,by simp [cpos]; omega,by simp [cpos]; omega,by omega⟩
   ·exact ⟨c + 1,(c,true),hD,h,by simp [cpos]; omega,by simp [cpos]; omega,by omega⟩
 have sorted:∀ (x y:Nat) (e e':Nat × Bool),x < y → D[x]? = some e → D[y]? = some e' → cpos e < cpos e':=by
  intro x y e e' hxy he he'
  obtain ⟨q1,rfl⟩:=List.getElem?_eq_some_iff.1 he
  obtain ⟨q2,rfl⟩:=List.getElem?_eq_some_iff.1 he'
  exact hsort x y q1 q2 hxy
 obtain ⟨gi,ei,di,si,li,ui,ni⟩:=pick i (by omega) a0
 obtain ⟨gj,ej,dj,sj,lj,uj,nj⟩:=pick j (by omega) (by omega)
 obtain ⟨gk,ek,dk,sk,lk,uk,nk⟩:=pick k (by omega) (by omega)
 obtain ⟨gm,em,dm',sm,lm,um,nm⟩:=pick m h4 (by omega)
 have t1:=sorted i j ei ej h1 di dj
 have t2:=sorted j k ej ek h2 dj dk
 have t3:=sorted k m ek em h3 dk dm'
 have n1:gi ≠ gj:=by rintro rfl; omega
 have n2:gj ≠ gk:=by rintro rfl; omega
 have n3:gk ≠ gm:=by rintro rfl; omega
 have r0:sd l (pt ps gi) ≠ 0:=by rw [si]; exact a0
 have r1:sd l (pt ps gj) = -sd l (pt ps gi):=by rw [sj,si]; exact a1
 have r2:sd l (pt ps gk) = -sd l (pt ps gj):=by rw [sk,sj]; exact a2
 have r3:sd l (pt ps gm) = -sd l (pt ps gk):=by rw [sm,sk]; exact a3
 exact h l hl ⟨gi,gj,gk,gm,by omega,by omega,by omega,by omega,r0,r1,r2,r3⟩
theorem Cvx.nil:Cvx []:=by
 rintro l hl ⟨i,j,k,m,h1,h2,h3,h4,-⟩
 simp only [List.length_nil] at h4; omega
theorem Cvx.half {K M:Nat} {ps:List Pt} {l0:Li} {s:Int} (h:Cvx ps) (hg:Good K M l0 s ps) (h0:Lok l0) (hs:s = 1 ∨ s = -1) (hp:∀ p ∈ ps,PK p):Cvx (halfR l0 s ps):=by
 unfold halfR; split
 ·exact h.cut hg h0 hs hp
 ·exact Cvx.nil
theorem Cvx.part {K M:Nat} {ps:List Pt} {l0:Li} {s:Int} (h:Cvx ps) (hg:Good K M l0 s ps) (h0:Lok l0) (hs:s = 1 ∨ s = -1) (hp:∀ p ∈ ps,PK p):Cvx (partR l0 s ps):=by
 rw [partR_eq]; split
 ·exact (h.half hg h0 hs hp).rot
 ·exact h.half hg h0 hs hp
theorem cutN_ch {l0:Li} {s:Int} {ps:List Pt} (hs:s = 1 ∨ s = -1):∀ k,k ≤ ps.length → (cutN l0 s ps k).length ≤ k + chN (fun i=>sd l0 (pt ps i)) k
 | 0,_=>by simp [cutN]
 | k + 1,hk=>by
  have ih:=cutN_ch (l0:=l0) (ps:=ps) hs k (by omega)
  have e:s * sd l0 (nth ps k) * (s * sd l0 (nxt ps k)) = sd l0 (nth ps k) * sd l0 (nxt ps k):=by
   rcases hs with rfl | rfl
   ·simp
   ·simp [Int.neg_mul_neg]
  have hpk:pt ps k = nth ps k:=pt_lt (by omega)
  have hnx:pt ps (k + 1) = nxt ps k:=rfl
  simp only [cutN,cutF,List.length_append,chN,hpk,hnx,e]
  have u1:(if 0 ≤ s * sd l0 (nth ps k) then [nth ps k] else []).length ≤ 1:=by split <;> simp
  by_cases hx:sd l0 (nth ps k) * sd l0 (nxt ps k) < 0
  ·simp only [if_pos hx,List.length_singleton]; omega
  ·simp only [if_neg hx,List.length_nil]; omega
theorem Cvx.len {ps:List Pt} {l0:Li} {s:Int} (h:Cvx ps) (h0:Lok l0) (hs:s = 1 ∨ s = -1):(partR l0 s ps).length ≤ ps.length + 2:=by
 unfold partR; split
 ·rw [rot0_len]
  have h1:=cutN_ch (l0:=l0) (ps:=ps) hs ps.length (Nat.le_refl _)
  have h2:=chN_two (sg_sd l0 ps) (h l0 h0)
  omega
 ·simp
end Go.Vai
