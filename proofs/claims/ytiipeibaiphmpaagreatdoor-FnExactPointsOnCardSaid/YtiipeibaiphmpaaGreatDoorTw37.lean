/- Texts of this claim: Zw37. -/
import Derived.Test.YtiipeibaiphmpaaGreatDoorTb76
import Derived.Test.YtiipeibaiphmpaaGreatDoorTb74
set_option linter.unusedVariables false
set_option linter.unusedSimpArgs false
set_option maxHeartbeats 8000000
set_option maxRecDepth 20000
namespace Go.Vai
theorem onR_len (l:Li) (ps:List Pt) (cs:List Cr):(onR l ps cs).length ≤ 210:=by
 unfold onR
 by_cases h0:onC l ps cs = 0
 ·rw [if_pos h0]
  have hv:(vB ps cs && vL l) = true:=by
   refine Classical.byContradiction fun h=>?_
   have e:onC l ps cs = 1:=by unfold onC; rw [if_neg h]
   rw [e] at h0; revert h0; decide
  rw [Bool.and_eq_true] at hv
  obtain ⟨-,-,-,h70⟩:=vB_facts hv.1
  have h1:=ordL_len pcmp (onN l ps cs cs.length) []
  have h2:=onN_len l ps cs cs.length
  rw [List.length_nil] at h1
  omega
 ·rw [if_neg h0]; simp
theorem c7 (ps:List Pt) (cs:List Cr) (l:Li) (h:ps.length ≤ maxLen) (hc:cs.length ≤ maxLen):PC E 7 [.agg (encPa ps cs),.agg (encLi l)] [.i (.bool true)]:=by
 have m:maxLen = 9223372036854775807:=by decide
 have lL:(encLi l).length = 4:=rfl
 refine law_start hE Proofs.Tryz.func7 rfl rfl Proofs.Tryz.ntmps7 (by kernel_rfl) (by simp) fun F w a hx hf0=>?_
 by_cases hle:(ps.length:Int) + cs.length ≤ 1048576
 rotate_left
 ·refine segEnd hE hx (Back.refl _ _) hf0 (by kernel_rfl) ?_
  simp (maxSteps:=999999) (disch:=first|exact {}|omega|simp) [zS,encPa,lL]
  refine zC (c12 ps cs (by omega) (by omega)) ?_
  simp (maxSteps:=999999) (disch:=first|exact {}|omega|simp) [zS,hle]
 have g1:(ps.length:Int) ≤ 1048576:=by omega
 have g2:(cs.length:Int) ≤ 1048576:=by omega
 have hvl:=onR_len l ps cs
 have cS:=c27 ps cs l g1 g2
 have cI:=c29 ps cs l g1 g2
 have cL:=c28 l
 generalize onR l ps cs = V at hvl cS cI
 generalize onC l ps cs = G at cS cI
 have g3:(V.length:Int) ≤ 210:=by omega
 have tV:List.take V.length (encPs V) = encPs V:=List.take_of_length_le (by simp)
 refine seg hE 0 ⟨[(2,.ptr 2 0 0),(3,.ptr 3 0 0)],[(2,⟨2,[encPa ps cs]⟩),(3,⟨4,[encLi l]⟩)]⟩ hx (Back.refl _ _) hf0 (by kernel_rfl) (by kernel_rfl) ?_ fun a w1 hf1=>?_
 ·simp (maxSteps:=999999) (disch:=first|exact {}|omega|simp) [zS,cutC,encPa,lL]
  exact ⟨by simp (maxSteps:=999999) (disch:=first|exact {}|omega|simp) [zS],by simp (maxSteps:=999999) (disch:=first|exact {}|omega|simp) [zS,encPa,lL],by simp (maxSteps:=999999) (disch:=first|exact {}|omega|simp) [zS]⟩
 simp only [restN]
 have eF:(fun b=>F b ∨ False) = F:=by funext b; simp
 obtain ⟨zA,FA,bk,off,cv,hzA,hxA,hbA,hsA,-,hGA,hfA,hbkA,hcA⟩:=freeze_var (R:=fun _=>False) (F:=F) (ys:=encPa ps cs) (by rw [eF]; exact hx) (by rw [eF]; exact hf1) (fun _ _ h=>h) hx.glob rfl rfl (by decide) rfl
  (fun Fc j x y v _ _ h1 h2 h3=>by rw [h1] at h2; obtain rfl:=Option.some.inj h2; exact h3)
 have eFA:(fun b=>FA b ∨ False) = FA:=by funext b; simp
 rw [eFA] at hxA hbA hfA
 rw [eF] at hbA
 have hfB:=(hfA.unpin (t:=2) rfl).le (s':=⟨[(3,.ptr 3 0 0),(2,.i (.ptr (encPa ps cs)))],[(3,⟨4,[encLi l]⟩)]⟩) ⟨by simp (maxSteps:=999999) (disch:=first|exact {}|omega|simp) [zS],by simp (maxSteps:=999999) (disch:=first|exact {}|omega|simp) [zS],by simp (maxSteps:=999999) (disch:=first|exact {}|omega|simp) [zS]⟩
 obtain ⟨zB,FB,bk',off',cv',hzB,hxB,hbB,hsB,-,hGB,hfC,hbkB,hcB⟩:=freeze_var (R:=fun _=>False) (F:=FA) (ys:=encLi l) (by rw [eFA]; exact hxA) (by rw [eFA]; exact hfB) (fun _ _ h=>h) hxA.glob rfl rfl (by decide) rfl
  (fun Fc j x y v _ _ h1 h2 h3=>by rw [h1] at h2; obtain rfl:=Option.some.inj h2; exact h3)
 have eFB:(fun b=>FB b ∨ False) = FB:=by funext b; simp
 rw [eFB] at hxB hbB hfC
 rw [eFA] at hbB
 subst hzB
 have hbC:=hbA.trans hbB
 have hfD:=hfC.unpin (t:=3) rfl
 have e0:¬ ((1048576:Int) - ps.length - cs.length < 0):=by omega
 refine seg hE 3 ⟨[(2,.i (.ptr (encPa ps cs))),(3,.i (.ptr (encLi l))),(6,.i (.sl (encPs V))),(7,.i (.int .i64 G))],[]⟩ hxB hbC hfD (by kernel_rfl) (by kernel_rfl) ?_ fun a w2 hf2=>?_
 ·simp (maxSteps:=999999) (disch:=first|exact {}|omega|simp) [zS,cutC,encPa,lL]
  refine zC (c12 ps cs (by omega) (by omega)) ?_
  simp (maxSteps:=999999) (disch:=first|exact {}|omega|simp) [zS,hle,e0,encPa,lL]
  refine zC (c14 ps cs g1 g2) ?_
  simp (maxSteps:=999999) (disch:=first|exact {}|omega|simp) [zS,encPa,lL]
  refine zC (cL) ?_
  simp (maxSteps:=999999) (disch:=first|exact {}|omega|simp) [zS,encPa,lL]
  refine zC (cS) ?_
  simp (maxSteps:=999999) (disch:=first|exact {}|omega|simp) [zS,encPa]
  exact ⟨by simp (maxSteps:=999999) (disch:=first|exact {}|omega|simp) [zS],by simp (maxSteps:=999999) (disch:=first|exact {}|omega|simp) [zS,encPa],by simp (maxSteps:=999999) (disch:=first|exact {}|omega|simp) [zS]⟩
 simp only [restN]
 refine wp_seq (region_hand hE 1 (S1:=⟨[(29,.agg (encPa ps cs)),(2,.i (.ptr (encPa ps cs))),(3,.i (.ptr (encLi l))),(6,.i (.sl (encPs V))),(7,.i (.int .i64 G))],[]⟩) hxB hf2 (by kernel_rfl) rfl rfl ?_ fun a w3 hf3=>?_)
 ·simp (maxSteps:=999999) (disch:=first|exact {}|omega|simp) [zS,encPa]
  exact ⟨by simp (maxSteps:=999999) (disch:=first|exact {}|omega|simp) [zS],by simp (maxSteps:=999999) (disch:=first|exact {}|omega|simp) [zS,encPa],by simp (maxSteps:=999999) (disch:=first|exact {}|omega|simp) [zS]⟩
 refine Oper.wp_mono ?_ (deepCall_wp hxB hf3 (d:=30) rfl (by decide) (vs:=[.agg (encPa ps cs)]) (by simp) (by simp) rfl (PDPat ps cs g1 g2) [(2,.i (.ptr (encPa ps cs))),(3,.i (.ptr (encLi l))),(6,.i (.sl (encPs V)))] (by simp [fixB,look_cons]) _)
 rintro a' w' ⟨z1,F1,R1,v1,us,hz1,hx1,hb1,h01,hFR1,hG1,hm1,ht1,hps,hf4⟩
 have hp0:=hps (2,.i (.ptr (encPa ps cs))) (by simp)
 have hp3:=hps (3,.i (.ptr (encLi l))) (by simp)
 have hp6:=hps (6,.i (.sl (encPs V))) (by simp)
 simp only at hp0 hp3 hp6
 subst hz1
 simp only [pinT,List.map_cons,List.map_nil,List.cons_append,List.nil_append] at hf4
 generalize us 2 = u0 at *
 generalize us 3 = u3 at *
 generalize us 6 = u6 at *
 clear hps hf3 hf2 hfD hfC hfB hfA hf1 hf0
 have htr:=ht1.tr
 obtain ⟨cv1,Rs1,rfl,q1,q2,q3,q4⟩:=htr
 have hsz:cv1.size = 2:=by rw [q1]; rfl
 obtain ⟨a1,a2,rfl⟩:∃ v1 v2,cv1 = #[v1,v2]:=by
  refine ⟨cv1[0],cv1[1], ?_⟩
  refine Array.ext (by simp [hsz]) fun j h1 h2=>?_
  match j,h2 with
  | 0,_=>rfl
  | 1,_=>rfl
 have T1:=q4 0 (.sl (encPs ps)) a1 rfl rfl
 have T2:=q4 1 (.sl (cs.map encK)) a2 rfl rfl
 refine ⟨z1,_,_,⟨[(8,.ptr 8 0 0),(2,.pin u0 (.i (.ptr (encPa ps cs)))),(3,.pin u3 (.i (.ptr (encLi l)))),(6,.pin u6 (.i (.sl (encPs V)))),(7,.i (.int .i64 G))],[(8,⟨2,[[.raw a1,.raw a2]]⟩)]⟩,hx1,hf4.recast (u':=.agg [.raw a1,.raw a2]) fun F ρ v h=>pin_raws h, ?_,fun a w5 hf5=>?_⟩
 ·simp (maxSteps:=999999) (disch:=first|exact {}|omega|simp) [zS]
  exact ⟨by simp (maxSteps:=999999) (disch:=first|exact {}|omega|simp) [zS],by simp (maxSteps:=999999) (disch:=first|exact {}|omega|simp) [zS],by simp (maxSteps:=999999) (disch:=first|exact {}|omega|simp) [zS]⟩
 show Code.wp _ _ _ _ _
 obtain ⟨z2,F2,bk2,off2,cv2,hz2,hx2,hb2,hs2,hFR2,hG2,hf6,hbk2,hc2⟩:=freeze_var (ys:=encPa ps cs) hx1 hf5 hFR1 hG1 rfl rfl (by decide) rfl
  (fun Fc j x y v k1 k2 h1 h2 h3=>by
   match j,h1,h2 with
   | 0,h1,h2 =>
    obtain rfl:=Option.some.inj h1
    obtain rfl:=Option.some.inj h2
    rw [h3.raw_eq]
    exact T1.rep.mono (fun b hb=>k1 b (.inr (q2 0 b hb))) fun b hb=>k2 b (.inr (q2 0 b hb))
   | 1,h1,h2 =>
    obtain rfl:=Option.some.inj h1
    obtain rfl:=Option.some.inj h2
    rw [h3.raw_eq]
    exact T2.rep.mono (fun b hb=>k1 b (.inr (q2 1 b hb))) fun b hb=>k2 b (.inr (q2 1 b hb))
   | j + 2,h1,h2=>simp at h1)
 subst hz2
 clear hf5 hf4
 have hb02:=hb1.trans hb2
 refine seg hE 3 ⟨[(8,.pin (.pointer (some ⟨bk2,off2,none⟩)) (.i (.ptr (encPa ps cs)))),(2,.pin u0 (.i (.ptr (encPa ps cs)))),(3,.pin u3 (.i (.ptr (encLi l)))),(6,.pin u6 (.i (.sl (encPs V)))),(7,.i (.int .i64 G)),(9,.own 35 0 V.length),(10,.i (.int .i64 G)),(11,.i (.int .i64 1))],
  [(35,⟨6,encPs V⟩)]⟩ hx2 (hbC.trans hb02) hf6 (by kernel_rfl) (by kernel_rfl) ?_ fun a w7 hf7=>?_
 ·simp (maxSteps:=999999) (disch:=first|exact {}|omega|simp) [zS,cutC,encPa,lL]
  refine zC (cL) ?_
  simp (maxSteps:=999999) (disch:=first|exact {}|omega|simp) [zS,encPa,lL]
  refine zC (cI) ?_
  simp (maxSteps:=999999) (disch:=first|exact {}|omega|simp) [zS,encPa,tV]
  refine zC (c30 V V (by omega) (by omega)) ?_
  simp (maxSteps:=999999) (disch:=first|exact {}|omega|simp) [zS,encPa]
  refine zC (c14 ps cs g1 g2) ?_
  simp (maxSteps:=999999) (disch:=first|exact {}|omega|simp) [zS,encPa]
  refine zC (c17 ps cs g1 g2) ?_
  simp (maxSteps:=999999) (disch:=first|exact {}|omega|simp) [zS,encPa]
  exact ⟨by simp (maxSteps:=999999) (disch:=first|exact {}|omega|simp) [zS,encPa],by simp (maxSteps:=999999) (disch:=first|exact {}|omega|simp) [zS,encPa],by simp (maxSteps:=999999) (disch:=first|exact {}|omega|simp) [zS]⟩
 simp only [restN]
 have hf8:=hf7.view (t:=8) (u':=.i (.ptr [.raw a1,.raw a2])) rfl (fun F' ρ' hsub _=>.i _ _ (.ptr _ bk2 off2 cv2 (hsub _ (.inl hbk2))
  (fun j x hj=>by rw [cell_of_heap (same_of_fits hx2 hf7 bk2 (.inl hbk2))]; exact (hc2 j x hj).1) fun j x hj=>(hc2 j x hj).2.mono hsub fun b hb=>same_of_fits hx2 hf7 b hb))
 refine wp_seq (region_hand hE 2 (S1:=⟨[(52,.agg [.raw a1,.raw a2]),(53,.i (.int .i64 1)),(2,.pin u0 (.i (.ptr (encPa ps cs)))),(3,.pin u3 (.i (.ptr (encLi l)))),(6,.pin u6 (.i (.sl (encPs V)))),(7,.i (.int .i64 G)),(9,.own 35 0 V.length),(10,.i (.int .i64 G))],
  [(35,⟨6,encPs V⟩)]⟩) hx2 hf8 (by kernel_rfl) rfl rfl ?_ fun a w9 hf9=>?_)
 ·simp (maxSteps:=999999) (disch:=first|exact {}|omega|simp) [zS]
  exact ⟨by simp (maxSteps:=999999) (disch:=first|exact {}|omega|simp) [zS,encPa],by simp (maxSteps:=999999) (disch:=first|exact {}|omega|simp) [zS],by simp (maxSteps:=999999) (disch:=first|exact {}|omega|simp) [zS]⟩
 have e1:∀ b,R1 b → z2.w.heap[b]? = z1.w.heap[b]?:=fun b hb=>same_of_back hx1 hb2 b (.inr hb)
 have e9:∀ b,R1 b → w9.heap[b]? = z1.w.heap[b]?:=fun b hb=>(same_of_fits hx2 hf9 b (.inr hb)).trans (e1 b hb)
 have hf10:=hf9.pinAgg (t:=52) (cs:=#[a1,a2]) (y:=.agg (encPa ps cs)) (by simp [look_cons]) (fun F' ρ' hsub=>.agg _ _ rfl fun j x v hj hv=>by
  match j,hj,hv with
  | 0,hj,hv =>
   obtain rfl:=Option.some.inj hj
   obtain rfl:=Option.some.inj hv
   exact T1.rep.mono (fun b hb=>hsub b (.inr (q2 0 b hb))) fun b hb=>e9 b (q2 0 b hb)
  | 1,hj,hv =>
   obtain rfl:=Option.some.inj hj
   obtain rfl:=Option.some.inj hv
   exact T2.rep.mono (fun b hb=>hsub b (.inr (q2 1 b hb))) fun b hb=>e9 b (q2 1 b hb)
  | j + 2,hj,hv=>simp at hv)
 have ht2:=ht1.keep hb2.kept.size e1
 have hp2:RepA F2 (fun _=>none) z2.w (.i (.ptr (encPa ps cs))) u0:=hp0.fix rfl hs2 fun b hb=>same_of_back hx1 hb2 b (.inl hb)
 have hp3':RepA F2 (fun _=>none) z2.w (.i (.ptr (encLi l))) u3:=hp3.fix rfl hs2 fun b hb=>same_of_back hx1 hb2 b (.inl hb)
 have hp6':RepA F2 (fun _=>none) z2.w (.i (.sl (encPs V))) u6:=hp6.fix rfl hs2 fun b hb=>same_of_back hx1 hb2 b (.inl hb)
 refine Oper.wp_mono ?_ (meltCall_wp hx2 hb02 hf10 (fun b hb=>hs2 b (h01 b hb)) hFR2 hG2 hm1 ht2 (d:=54) rfl (by decide) rfl (by simp [look_cons]) (by simp [look_cons]) (PWPat ps cs 1 (by omega) (by omega))
  [(2,.pin u0 (.i (.ptr (encPa ps cs)))),(3,.pin u3 (.i (.ptr (encLi l)))),(6,.pin u6 (.i (.sl (encPs V)))),(7,.i (.int .i64 G)),(9,.own 35 0 V.length),(10,.i (.int .i64 G))]
  ⟨⟨by simp [look_cons],.inr (.inr ⟨_,_,rfl,rfl,hp2⟩)⟩,⟨by simp [look_cons],.inr (.inr ⟨_,_,rfl,rfl,hp3'⟩)⟩,⟨by simp [look_cons],.inr (.inr ⟨_,_,rfl,rfl,hp6'⟩)⟩,⟨by simp [look_cons],.inl ⟨_,rfl,rfl⟩⟩,⟨by simp [look_cons],.inr (.inl ⟨_,_,_,rfl⟩)⟩,⟨by simp [look_cons],.inl ⟨_,rfl,rfl⟩⟩,trivial⟩
  ⟨flatPts V,trivial⟩ _)
 rintro a' w' ⟨z3,hx3,hb3,hf11⟩
 refine ⟨z3,F2,_,⟨[(2,.pin u0 (.i (.ptr (encPa ps cs)))),(3,.pin u3 (.i (.ptr (encLi l)))),(11,.i (.int .i64 (1 + 6 * ps.length + 3 * cs.length))),(6,.pin u6 (.i (.sl (encPs V)))),(7,.i (.int .i64 G)),(9,.own 35 0 V.length),(10,.i (.int .i64 G))],
  [(35,⟨6,encPs V⟩)]⟩,hx3,hf11, ?_,fun a w12 hf12=>?_⟩
 ·simp (maxSteps:=999999) (disch:=first|exact {}|omega|simp) [zS]
  exact ⟨by simp (maxSteps:=999999) (disch:=first|exact {}|omega|simp) [zS,encPa],by simp (maxSteps:=999999) (disch:=first|exact {}|omega|simp) [zS],by simp (maxSteps:=999999) (disch:=first|exact {}|omega|simp) [zS]⟩
 show Code.wp _ _ _ _ _
 refine segEnd hE hx3 (hbC.trans hb3) hf12 (by kernel_rfl) ?_
 have e2:¬ ((1:Int) + 6 * ps.length + 3 * cs.length < 0):=by omega
 have e3:¬ ((1:Int) + 6 * V.length < 0):=by omega
 have cm:=c31 V 1 (by omega) (by omega)
 have htm:((List.range V.length).map (m6 1)).take V.length = (List.range V.length).map (m6 1):=by rw [List.take_of_length_le (by simp)]
 have hfm:=flat_m6 1 V.length
 clear hf12 hf11 hf10 hf9 hf8 hf7 hf6
 simp (maxSteps:=999999) (disch:=first|exact {}|omega|simp) [zS,e2,tV]
 refine zC (c30 V V (by omega) (by omega)) ?_
 simp (maxSteps:=999999) (disch:=first|exact {}|omega|simp) [zS]
 refine MutK.of cm (by simp) (by simp) (by simp) (by simp) (by simp) ?_
 simp (maxSteps:=999999) (disch:=first|exact {}|omega|simp) [zS,htm]
 refine zC (c32 V.length 1 (by omega) (by omega)) ?_
 simp (maxSteps:=999999) (disch:=first|exact {}|omega|simp) [zS,e3,encPa,lL]
 refine zC (c14 ps cs g1 g2) ?_
 simp (maxSteps:=999999) (disch:=first|exact {}|omega|simp) [zS,encPa,lL]
 refine zC (cL) ?_
 simp (maxSteps:=999999) (disch:=first|exact {}|omega|simp) [zS,encPa,lL]
 refine zC (cI) ?_
 simp (maxSteps:=999999) (disch:=first|exact {}|omega|simp) [zS,tV]
 refine zC (c30 V V (by omega) (by omega)) ?_
 simp (maxSteps:=999999) (disch:=first|exact {}|omega|simp) [zS,htm]
 refine zC (c32 V.length 1 (by omega) (by omega)) ?_
 simp (maxSteps:=999999) (disch:=first|exact {}|omega|simp) [zS,e3]
end Go.Vai
