/- Texts of this claim: Zw30. -/
import Derived.Test.YtiipeibaiphmpaaGreatDoorSb64
import Derived.Test.YtiipeibaiphmpaaGreatDoorSb74
set_option linter.unusedVariables false
set_option linter.unusedSimpArgs false
set_option maxHeartbeats 8000000
set_option maxRecDepth 20000
namespace Go.Vai
theorem c9 (ps:List Pt) (cs:List Cr) (k:Int) (h:ps.length ≤ maxLen) (hc:cs.length ≤ maxLen):PC E 9 [.agg (encPa ps cs),.i (.int .i64 k)] [.i (.bool true)]:=by
 have m:maxLen = 9223372036854775807:=by decide
 refine law_start hE Proofs.Tryz.func9 rfl rfl Proofs.Tryz.ntmps9 (by kernel_rfl) (by simp) fun F w a hx hf0=>?_
 by_cases hle:(ps.length:Int) + cs.length ≤ 1048576
 rotate_left
 ·refine segEnd hE hx (Back.refl _ _) hf0 (by kernel_rfl) ?_
  simp (maxSteps:=999999) (disch:=first|exact {}|omega|simp) [zS,encPa]
  refine zC (c12 ps cs (by omega) (by omega)) ?_
  simp (maxSteps:=999999) (disch:=first|exact {}|omega|simp) [zS,hle]
 have g1:(ps.length:Int) ≤ 1048576:=by omega
 have g2:(cs.length:Int) ≤ 1048576:=by omega
 have hvl:=secA_len ps cs k
 have cS:=c35 ps cs k g1 g2
 have cI:=c36 ps cs k g1 g2
 generalize secA ps cs k = V at hvl cS cI
 generalize codeK ps cs k = G at cS cI
 have g3:(V.length:Int) ≤ 1048576:=by omega
 have tV:List.take V.length (V.map encI) = V.map encI:=List.take_of_length_le (by simp)
 refine seg hE 0 ⟨[(2,.ptr 2 0 0),(1,.i (.int .i64 k))],[(2,⟨2,[encPa ps cs]⟩)]⟩ hx (Back.refl _ _) hf0 (by kernel_rfl) (by kernel_rfl) ?_ fun a w1 hf1=>?_
 ·simp (maxSteps:=999999) (disch:=first|exact {}|omega|simp) [zS,cutC,encPa]
  exact ⟨by simp (maxSteps:=999999) (disch:=first|exact {}|omega|simp) [zS],by simp (maxSteps:=999999) (disch:=first|exact {}|omega|simp) [zS,encPa],by simp (maxSteps:=999999) (disch:=first|exact {}|omega|simp) [zS]⟩
 simp only [restN]
 have eF:(fun b=>F b ∨ False) = F:=by funext b; simp
 obtain ⟨zA,FA,bk,off,cv,hzA,hxA,hbA,hsA,-,hGA,hfA,hbkA,hcA⟩:=freeze_var (R:=fun _=>False) (F:=F) (ys:=encPa ps cs) (by rw [eF]; exact hx) (by rw [eF]; exact hf1) (fun _ _ h=>h) hx.glob rfl rfl (by decide) rfl
  (fun Fc j x y v _ _ h1 h2 h3=>by rw [h1] at h2; obtain rfl:=Option.some.inj h2; exact h3)
 have eFA:(fun b=>FA b ∨ False) = FA:=by funext b; simp
 rw [eFA] at hxA hbA hfA
 rw [eF] at hbA
 subst hzA
 have hfB:=hfA.unpin (t:=2) rfl
 have e0:¬ ((1048576:Int) - ps.length - cs.length < 0):=by omega
 refine seg hE 3 ⟨[(2,.i (.ptr (encPa ps cs))),(1,.i (.int .i64 k)),(6,.own 25 0 V.length),(7,.i (.int .i64 G))],[(25,⟨1,V.map encI⟩)]⟩ hxA hbA hfB (by kernel_rfl) (by kernel_rfl) ?_ fun a w2 hf2=>?_
 ·simp (maxSteps:=999999) (disch:=first|exact {}|omega|simp) [zS,cutC,encPa]
  refine zC (c12 ps cs (by omega) (by omega)) ?_
  simp (maxSteps:=999999) (disch:=first|exact {}|omega|simp) [zS,hle,e0,encPa]
  refine zC (c14 ps cs g1 g2) ?_
  simp (maxSteps:=999999) (disch:=first|exact {}|omega|simp) [zS,encPa]
  refine zC (cS) ?_
  simp (maxSteps:=999999) (disch:=first|exact {}|omega|simp) [zS,encPa]
  exact ⟨by simp (maxSteps:=999999) (disch:=first|exact {}|omega|simp) [zS],by simp (maxSteps:=999999) (disch:=first|exact {}|omega|simp) [zS,encPa],by simp (maxSteps:=999999) (disch:=first|exact {}|omega|simp) [zS]⟩
 simp only [restN]
 refine wp_seq (region_hand hE 1 (S1:=⟨[(28,.agg (encPa ps cs)),(2,.i (.ptr (encPa ps cs))),(1,.i (.int .i64 k)),(6,.own 25 0 V.length),(7,.i (.int .i64 G))],[(25,⟨1,V.map encI⟩)]⟩) hxA hf2 (by kernel_rfl) rfl rfl ?_ fun a w3 hf3=>?_)
 ·simp (maxSteps:=999999) (disch:=first|exact {}|omega|simp) [zS,encPa]
  exact ⟨by simp (maxSteps:=999999) (disch:=first|exact {}|omega|simp) [zS],by simp (maxSteps:=999999) (disch:=first|exact {}|omega|simp) [zS,encPa],by simp (maxSteps:=999999) (disch:=first|exact {}|omega|simp) [zS]⟩
 refine Oper.wp_mono ?_ (deepCall_wp hxA hf3 (d:=29) rfl (by decide) (vs:=[.agg (encPa ps cs)]) (by simp) (by simp) rfl (PDPat ps cs g1 g2) [(2,.i (.ptr (encPa ps cs)))] (by simp [fixB,look_cons]) _)
 rintro a' w' ⟨z1,F1,R1,v1,us,hz1,hx1,hb1,h01,hFR1,hG1,hm1,ht1,hps,hf4⟩
 have hp0:=hps (2,.i (.ptr (encPa ps cs))) (by simp)
 simp only at hp0
 subst hz1
 simp only [pinT,List.map_cons,List.map_nil,List.cons_append,List.nil_append] at hf4
 generalize us 2 = u0 at *
 clear hps hf3 hf2 hfB hfA hf1 hf0
 have htr:=ht1.tr
 obtain ⟨cv1,Rs1,rfl,q1,q2,q3,q4⟩:=htr
 have hsz:cv1.size = 2:=by rw [q1]; rfl
 obtain ⟨a1,a2,rfl⟩:∃ v1 v2,cv1 = #[v1,v2]:=by
  refine ⟨cv1[0],cv1[1], ?_⟩
  refine Array.ext (by simp [hsz]) fun j h1 h2=>?_
  match j,h2 with
  | 0,_=>rfl
  | 1,_=>rfl
 have T1:=q4 0 (.sl (encPs ps)) a1 rfl rfl
 have T2:=q4 1 (.sl (cs.map encK)) a2 rfl rfl
 refine ⟨z1,_,_,⟨[(8,.ptr 8 0 0),(2,.pin u0 (.i (.ptr (encPa ps cs)))),(1,.i (.int .i64 k)),(6,.own 25 0 V.length),(7,.i (.int .i64 G))],[(8,⟨2,[[.raw a1,.raw a2]]⟩),(25,⟨1,V.map encI⟩)]⟩,hx1,hf4.recast (u':=.agg [.raw a1,.raw a2]) fun F ρ v h=>pin_raws h, ?_,fun a w5 hf5=>?_⟩
 ·simp (maxSteps:=999999) (disch:=first|exact {}|omega|simp) [zS]
  exact ⟨by simp (maxSteps:=999999) (disch:=first|exact {}|omega|simp) [zS],by simp (maxSteps:=999999) (disch:=first|exact {}|omega|simp) [zS],by simp (maxSteps:=999999) (disch:=first|exact {}|omega|simp) [zS]⟩
 show Code.wp _ _ _ _ _
 obtain ⟨z2,F2,bk2,off2,cv2,hz2,hx2,hb2,hs2,hFR2,hG2,hf6,hbk2,hc2⟩:=freeze_var (ys:=encPa ps cs) hx1 hf5 hFR1 hG1 rfl rfl (by decide) rfl
  (fun Fc j x y v k1 k2 h1 h2 h3=>by
   match j,h1,h2 with
   | 0,h1,h2 =>
    obtain rfl:=Option.some.inj h1
    obtain rfl:=Option.some.inj h2
    rw [h3.raw_eq]
    exact T1.rep.mono (fun b hb=>k1 b (.inr (q2 0 b hb))) fun b hb=>k2 b (.inr (q2 0 b hb))
   | 1,h1,h2 =>
    obtain rfl:=Option.some.inj h1
    obtain rfl:=Option.some.inj h2
    rw [h3.raw_eq]
    exact T2.rep.mono (fun b hb=>k1 b (.inr (q2 1 b hb))) fun b hb=>k2 b (.inr (q2 1 b hb))
   | j + 2,h1,h2=>simp at h1)
 subst hz2
 clear hf5 hf4
 have hb02:=hb1.trans hb2
 refine seg hE 3 ⟨[(8,.pin (.pointer (some ⟨bk2,off2,none⟩)) (.i (.ptr (encPa ps cs)))),(2,.pin u0 (.i (.ptr (encPa ps cs)))),(1,.i (.int .i64 k)),(6,.own 25 0 V.length),(7,.i (.int .i64 G)),(9,.own 33 0 V.length),(10,.i (.int .i64 G)),(11,.i (.int .i64 1))],
  [(25,⟨1,V.map encI⟩),(33,⟨1,V.map encI⟩)]⟩ hx2 (hbA.trans hb02) hf6 (by kernel_rfl) (by kernel_rfl) ?_ fun a w7 hf7=>?_
 ·simp (maxSteps:=999999) (disch:=first|exact {}|omega|simp) [zS,cutC,encPa]
  refine zC (cI) ?_
  simp (maxSteps:=999999) (disch:=first|exact {}|omega|simp) [zS,encPa,tV]
  refine zC (c16 V V g3 g3) ?_
  simp (maxSteps:=999999) (disch:=first|exact {}|omega|simp) [zS,encPa]
  refine zC (c14 ps cs g1 g2) ?_
  simp (maxSteps:=999999) (disch:=first|exact {}|omega|simp) [zS,encPa]
  refine zC (c17 ps cs g1 g2) ?_
  simp (maxSteps:=999999) (disch:=first|exact {}|omega|simp) [zS,encPa]
  exact ⟨by simp (maxSteps:=999999) (disch:=first|exact {}|omega|simp) [zS,encPa],by simp (maxSteps:=999999) (disch:=first|exact {}|omega|simp) [zS,encPa],by simp (maxSteps:=999999) (disch:=first|exact {}|omega|simp) [zS]⟩
 simp only [restN]
 have hf8:=hf7.view (t:=8) (u':=.i (.ptr [.raw a1,.raw a2])) rfl (fun F' ρ' hsub _=>.i _ _ (.ptr _ bk2 off2 cv2 (hsub _ (.inl hbk2))
  (fun j x hj=>by rw [cell_of_heap (same_of_fits hx2 hf7 bk2 (.inl hbk2))]; exact (hc2 j x hj).1) fun j x hj=>(hc2 j x hj).2.mono hsub fun b hb=>same_of_fits hx2 hf7 b hb))
 refine wp_seq (region_hand hE 2 (S1:=⟨[(50,.agg [.raw a1,.raw a2]),(51,.i (.int .i64 1)),(2,.pin u0 (.i (.ptr (encPa ps cs)))),(1,.i (.int .i64 k)),(6,.own 25 0 V.length),(7,.i (.int .i64 G)),(9,.own 33 0 V.length),(10,.i (.int .i64 G))],
  [(25,⟨1,V.map encI⟩),(33,⟨1,V.map encI⟩)]⟩) hx2 hf8 (by kernel_rfl) rfl rfl ?_ fun a w9 hf9=>?_)
 ·simp (maxSteps:=999999) (disch:=first|exact {}|omega|simp) [zS]
  exact ⟨by simp (maxSteps:=999999) (disch:=first|exact {}|omega|simp) [zS,encPa],by simp (maxSteps:=999999) (disch:=first|exact {}|omega|simp) [zS],by simp (maxSteps:=999999) (disch:=first|exact {}|omega|simp) [zS]⟩
 have e1:∀ b,R1 b → z2.w.heap[b]? = z1.w.heap[b]?:=fun b hb=>same_of_back hx1 hb2 b (.inr hb)
 have e9:∀ b,R1 b → w9.heap[b]? = z1.w.heap[b]?:=fun b hb=>(same_of_fits hx2 hf9 b (.inr hb)).trans (e1 b hb)
 have hf10:=hf9.pinAgg (t:=50) (cs:=#[a1,a2]) (y:=.agg (encPa ps cs)) (by simp [look_cons]) (fun F' ρ' hsub=>.agg _ _ rfl fun j x v hj hv=>by
  match j,hj,hv with
  | 0,hj,hv =>
   obtain rfl:=Option.some.inj hj
   obtain rfl:=Option.some.inj hv
   exact T1.rep.mono (fun b hb=>hsub b (.inr (q2 0 b hb))) fun b hb=>e9 b (q2 0 b hb)
  | 1,hj,hv =>
   obtain rfl:=Option.some.inj hj
   obtain rfl:=Option.some.inj hv
   exact T2.rep.mono (fun b hb=>hsub b (.inr (q2 1 b hb))) fun b hb=>e9 b (q2 1 b hb)
  | j + 2,hj,hv=>simp at hv)
 have ht2:=ht1.keep hb2.kept.size e1
 have hp2:RepA F2 (fun _=>none) z2.w (.i (.ptr (encPa ps cs))) u0:=hp0.fix rfl hs2 fun b hb=>same_of_back hx1 hb2 b (.inl hb)
 refine Oper.wp_mono ?_ (meltCall_wp hx2 hb02 hf10 (fun b hb=>hs2 b (h01 b hb)) hFR2 hG2 hm1 ht2 (d:=52) rfl (by decide) rfl (by simp [look_cons]) (by simp [look_cons]) (PWPat ps cs 1 (by omega) (by omega))
  [(2,.pin u0 (.i (.ptr (encPa ps cs)))),(1,.i (.int .i64 k)),(6,.own 25 0 V.length),(7,.i (.int .i64 G)),(9,.own 33 0 V.length),(10,.i (.int .i64 G))]
  ⟨⟨by simp [look_cons],.inr (.inr ⟨_,_,rfl,rfl,hp2⟩)⟩,⟨by simp [look_cons],.inl ⟨_,rfl,rfl⟩⟩,⟨by simp [look_cons],.inr (.inl ⟨_,_,_,rfl⟩)⟩,⟨by simp [look_cons],.inl ⟨_,rfl,rfl⟩⟩,⟨by simp [look_cons],.inr (.inl ⟨_,_,_,rfl⟩)⟩,⟨by simp [look_cons],.inl ⟨_,rfl,rfl⟩⟩,trivial⟩
  ⟨flatInt V,flatInt V,trivial⟩ _)
 rintro a' w' ⟨z3,hx3,hb3,hf11⟩
 refine ⟨z3,F2,_,⟨[(2,.pin u0 (.i (.ptr (encPa ps cs)))),(1,.i (.int .i64 k)),(11,.i (.int .i64 (1 + 6 * ps.length + 3 * cs.length))),(6,.own 25 0 V.length),(7,.i (.int .i64 G)),(9,.own 33 0 V.length),(10,.i (.int .i64 G))],
  [(25,⟨1,V.map encI⟩),(33,⟨1,V.map encI⟩)]⟩,hx3,hf11, ?_,fun a w12 hf12=>?_⟩
 ·simp (maxSteps:=999999) (disch:=first|exact {}|omega|simp) [zS]
  exact ⟨by simp (maxSteps:=999999) (disch:=first|exact {}|omega|simp) [zS,encPa],by simp (maxSteps:=999999) (disch:=first|exact {}|omega|simp) [zS],by simp (maxSteps:=999999) (disch:=first|exact {}|omega|simp) [zS]⟩
 show Code.wp _ _ _ _ _
 refine segEnd hE hx3 (hbA.trans hb3) hf12 (by kernel_rfl) ?_
 have e2:¬ ((1:Int) + 6 * ps.length + 3 * cs.length < 0):=by omega
 have e3:¬ ((1:Int) + V.length < 0):=by omega
 have cm:=c19 V 1 (by omega) (by omega)
 have htm:((marks 1 V.length).map encI).take V.length = (marks 1 V.length).map encI:=by rw [List.take_of_length_le (by simp)]
 have hfm:=flatInt (marks 1 V.length)
 clear hf12 hf11 hf10 hf9 hf8 hf7 hf6
 simp (maxSteps:=999999) (disch:=first|exact {}|omega|simp) [zS,e2,tV]
 refine zC (c16 V V g3 g3) ?_
 simp (maxSteps:=999999) (disch:=first|exact {}|omega|simp) [zS]
 refine MutK.of cm (by simp) (by simp) (by simp) (by simp) (by simp) ?_
 simp (maxSteps:=999999) (disch:=first|exact {}|omega|simp) [zS,htm]
 refine zC (c20 V.length 1 (by omega) (by omega)) ?_
 simp (maxSteps:=999999) (disch:=first|exact {}|omega|simp) [zS,e3,encPa]
 refine zC (c14 ps cs g1 g2) ?_
 simp (maxSteps:=999999) (disch:=first|exact {}|omega|simp) [zS,encPa]
 refine zC (cI) ?_
 simp (maxSteps:=999999) (disch:=first|exact {}|omega|simp) [zS,tV]
 refine zC (c16 V V g3 g3) ?_
 simp (maxSteps:=999999) (disch:=first|exact {}|omega|simp) [zS,htm]
 refine zC (c20 V.length 1 (by omega) (by omega)) ?_
 simp (maxSteps:=999999) (disch:=first|exact {}|omega|simp) [zS,e3]
end Go.Vai
