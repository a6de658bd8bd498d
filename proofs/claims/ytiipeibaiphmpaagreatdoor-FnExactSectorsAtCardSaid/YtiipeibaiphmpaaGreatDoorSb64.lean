/- Texts of this claim: Zw24, Zw25, Zw26. -/
import Derived.Test.YtiipeibaiphmpaaGreatDoorSb63
import Derived.Test.YtiipeibaiphmpaaGreatDoorSb74
set_option linter.unusedVariables false
set_option linter.unusedSimpArgs false
set_option maxHeartbeats 8000000
set_option maxRecDepth 20000
namespace Go.Vai
open Pq
theorem gI {l:List (List IV)} {i:Nat} {a:List IV} (h:l[i]? = some a):l[i]'(List.getElem?_eq_some_iff.1 h).1 = a:=(List.getElem?_eq_some_iff.1 h).2
theorem c276 (n:Int) (h0:0 ≤ n) (h1:n ≤ 1099511627776):PC E 276 [.esl,.i (.int .i64 n)] [.own 1 []]:=by
 refine zP hE Proofs.Tryz.func276 Proofs.Tryz.ntmps276 rfl rfl ?_
 have w0:IntKind.i64.wrap 0 = 0:=by decide
 have w1:IntKind.i64.wrap n = n:=wrap_i64 (by omega) (by omega)
 have c0:(0:Int) - 0 = 0:=rfl
 simp (maxSteps:=999999) (disch:=first|exact {}|omega|simp) [zS,show ¬ (n < 0) by omega,w0,w1]
 have hm1:n ≤ most:=by unfold most; omega
 have hm2:8 * n ≤ most:=by unfold most; omega
 (first | refine Gd.dec (fun h2=>?_) (fun h2=>?_) | refine Gd.intro (fun h2=>?_) (fun h2=>?_)) <;> simp (maxSteps:=999999) (disch:=first|exact {}|omega|simp) [zS,h2]
def encIL (l:List Int):List IV:=[.sl (l.map encI)]
def lsum (L:List (List Int)):Nat:=(L.map List.length).sum
theorem lsum_take {L:List (List Int)} {k:Nat} (h:k < L.length):lsum (L.take (k + 1)) = lsum (L.take k) + L[k].length:=by
 unfold lsum
 rw [List.take_succ_eq_append_getElem h,List.map_append,List.sum_append]
 simp
theorem lsum_le (L:List (List Int)) (k:Nat):lsum (L.take k) ≤ lsum L:=by
 have:lsum L = lsum (L.take k) + lsum (L.drop k):=by
  unfold lsum
  rw [← List.sum_append,← List.map_append,List.take_append_drop]
 omega
theorem flatI_take {L:List (List Int)} {k:Nat} (h:k < L.length):(L.take (k + 1)).flatten = (L.take k).flatten ++ L[k]:=by
 rw [List.take_succ_eq_append_getElem h,List.flatten_append]
 simp
theorem flatI_len (L:List (List Int)):L.flatten.length = lsum L:=by simp [lsum,List.length_flatten]
def flE (L:List (List Int)):List (List IV):=L.flatten.map encI
theorem flE_nil:flE [] = []:=rfl
theorem flE_take {L:List (List Int)} {k:Nat} (h:k < L.length):flE (L.take (k + 1)) = flE (L.take k) ++ L[k].map encI:=by unfold flE; rw [flatI_take h,List.map_append]
theorem flE_len (L:List (List Int)):(flE L).length = lsum L:=by unfold flE; rw [List.length_map,flatI_len]
theorem take_flE (L:List (List Int)):(flE L).take (lsum L) = flE L:=List.take_of_length_le (by rw [flE_len]; exact Nat.le_refl _)
theorem mem_encI (l:List Int):(∀ x ∈ l.map encI,x.length = 1) = True:=by
 simp [encI]
theorem c232 (L:List (List Int)) (hl:(L.length:Int) ≤ 1048576) (h:(lsum L:Int) ≤ 1099511627776):PC E 232 [.i (.sl (L.map encIL))] [.own 1 (flE L)]:=by
 refine zP hE Proofs.Tryz.func232 Proofs.Tryz.ntmps232 rfl rfl ?_
 simp (maxSteps:=999999) (disch:=first|exact {}|omega|simp) [zS]
 refine XL.by hE (ι:={ k:Nat // k ≤ L.length }) (fun k=>⟨[(0,.i (.sl (L.map encIL))),(3,.i (.int .i64 (lsum (L.take k.1)))),(9,.i (.sl (L.map encIL))),(10,.i (.int .i64 L.length)),(11,.i (.int .i64 k.1))],[]⟩)
  (fun k=>L.length - k.1) ⟨0,Nat.zero_le _⟩ ⟨by simp [lsum],by simp,by simp⟩ (by kernel_rfl) ?_
 rintro ⟨k,hk⟩
 have hsk:=lsum_le L k
 by_cases hlt:k < L.length
 ·have hsk1:=lsum_le L (k + 1)
  rw [lsum_take hlt] at hsk1
  have hw:IntKind.i64.wrap ((lsum (L.take k):Int) + L[k].length) = ((lsum (L.take k) + L[k].length:Nat):Int):=by rw [wrap_i64 (by omega) (by omega)]; simp
  simp (maxSteps:=999999) (disch:=first|exact {}|omega|simp) [zS,hlt,encIL,hw,show ¬ ((lsum (L.take k):Int) + L[k].length < 0) by omega]
  (refine ⟨⟨k + 1,by omega⟩,by (simp; try omega), ?_⟩; constructor <;> (simp (maxSteps:=999999) (disch:=first|exact {}|omega|simp) [zS,lsum_take hlt]) <;> (try omega))
 ·obtain rfl:k = L.length:=by omega
  simp (maxSteps:=999999) (disch:=first|exact {}|omega|simp) [zS]
  refine zC (c276 (lsum L) (by omega) (by omega)) ?_
  simp (maxSteps:=999999) (disch:=first|exact {}|omega|simp) [zS]
  refine XL.by hE (ι:={ k:Nat // k ≤ L.length }) (fun k=>⟨[(6,.own 24 0 (lsum (L.take k.1))),(25,.i (.sl (L.map encIL))),(26,.i (.int .i64 L.length)),(27,.i (.int .i64 k.1))],[(24,⟨1,flE (L.take k.1)⟩)]⟩)
   (fun k=>L.length - k.1) ⟨0,Nat.zero_le _⟩ ⟨by simp [lsum],by simp [flE_nil],by simp⟩ (by kernel_rfl) ?_
  rintro ⟨k,hk2⟩
  have hsk:=lsum_le L k
  by_cases hlt:k < L.length
  ·have hsk1:=lsum_le L (k + 1)
   rw [lsum_take hlt] at hsk1
   simp (maxSteps:=999999) (disch:=first|exact {}|omega|simp) [zS,hlt,encIL,mem_encI,most,show (lsum (L.take k):Int) + L[k].length ≤ 140737488355328 by omega,show ((lsum (L.take k):Int) + L[k].length) * 8 ≤ 140737488355328 by omega]
   (refine ⟨⟨k + 1,by omega⟩,by (simp; try omega), ?_⟩; constructor <;> (simp (maxSteps:=999999) (disch:=first|exact {}|omega|simp) [zS,lsum_take hlt,flE_take hlt,take_flE]) <;> (try omega))
  ·obtain rfl:k = L.length:=by omega
   simp (maxSteps:=999999) (disch:=first|exact {}|omega|simp) [zS,take_flE]
theorem c161 (l:List Int) (k:Nat) (hk:k ≤ l.length) (hl:(l.length:Int) ≤ 1048576):PC E 161 [.i (.sl (l.map encI)),.i (.int .i64 k)] [.own 1 ((rotL l k).map encI)]:=by
 have ht:List.drop k (l.map encI) = (l.drop k).map encI:=by simp
 have ht2:List.take k (l.map encI) = (l.take k).map encI:=by simp
 have hc:=c232 [l.drop k,l.take k] (by simp) (by simp [lsum]; omega)
 have hfl:flE [l.drop k,l.take k] = (rotL l k).map encI:=by unfold flE rotL; simp
 rw [hfl] at hc
 have hlm:lsum [l.drop k,l.take k] = l.length:=by simp [lsum]; omega
 have hmap:[l.drop k,l.take k].map encIL = [[.sl ((l.drop k).map encI)],[.sl ((l.take k).map encI)]]:=rfl
 rw [hmap] at hc
 have hm0:=mem_encI l
 have hm1:=mem_encI (l.drop k)
 have hm2:=mem_encI (l.take k)
 have hl0:(l.map encI).length = l.length:=by simp
 have hl1:((l.drop k).map encI).length = l.length - k:=by simp
 have hl2:((l.take k).map encI).length = k:=by simp; omega
 have hr:(rotL l k).length = l.length:=rotL_len l hk
 have hr2:((rotL l k).map encI).length = l.length:=by simpa using hr
 generalize (l.take k).map encI = B at *
 generalize (l.drop k).map encI = A at *
 generalize l.map encI = M at *
 have tA:List.take (l.length - k) A = A:=List.take_of_length_le (by omega)
 have tR:List.take l.length ((rotL l k).map encI) = (rotL l k).map encI:=List.take_of_length_le (by omega)
 refine zP hE Proofs.Tryz.func161 Proofs.Tryz.ntmps161 rfl rfl ?_
 simp (maxSteps:=999999) (disch:=first|exact {}|omega|simp) [zS,hk,ht,ht2,hm0,hm1,hm2,hl0,tA]
 refine zC (hc) ?_
 simp (maxSteps:=999999) (disch:=first|exact {}|omega|simp) [zS,hr,hr2,tR]
theorem c158 (D:List Int) (hb:∀ d ∈ D,0 ≤ d ∧ d ≤ 15) (hl:(D.length:Int) ≤ 1048576):PC E 158 [.i (.sl (D.map encI))] [.own 1 ((secL D D.length).map encI)]:=by
 have hbn:=fun i (hi:i < D.length)=>bd_nth hb hi
 refine zP hE Proofs.Tryz.func158 Proofs.Tryz.ntmps158 rfl rfl ?_
 simp (maxSteps:=999999) (disch:=first|exact {}|omega|simp) [zS]
 refine XL.by hE (ι:={ q:Nat // q ≤ D.length }) (fun q=>⟨[(0,.i (.sl (D.map encI))),(3,.own 33 0 q.1),(7,.i (.sl (D.map encI))),(8,.i (.int .i64 D.length)),(9,.i (.int .i64 q.1))],[(33,⟨1,(secL D q.1).map encI⟩)]⟩)
  (fun q=>D.length - q.1) ⟨0,Nat.zero_le _⟩ ⟨by simp,by simp [secL],by simp⟩ (by kernel_rfl) ?_
 rintro ⟨q,hq⟩
 have hll:((secL D q).map encI).length = q:=by simp
 have tX:List.take q ((secL D q).map encI) = (secL D q).map encI:=List.take_of_length_le (by omega)
 by_cases hlt:q < D.length
 ·have gx:∀ i,i < D.length → (D.map encI)[i]? = some [.int .i64 (nthI D i)]:=fun i hi=>by rw [List.getElem?_map,List.getElem?_eq_getElem hi,nthI_eq hi]; rfl
  have gq:=gx q hlt
  have g0:=gx 0 (by omega)
  have b0:=hbn 0 (by omega)
  have bq:=hbn q hlt
  have hst:(secL D (q + 1)).map encI = (secL D q).map encI ++ [[.int .i64 (sec1 D q)]]:=by rw [secL_snoc,List.map_append]; rfl
  have hs1:sec1 D q = (if q + 1 < D.length then nthI D (q + 1) else nthI D 0 + 16) - nthI D q:=rfl
  have hDl:(D.map encI).length = D.length:=by simp
  have h0:0 < D.length:=by omega
  by_cases hn:q + 1 < D.length
  ·have gn:=gx (q + 1) hn
   have bn:=hbn (q + 1) hn
   have c2:¬ ((q:Int) + 1 < 0):=by omega
   rw [if_pos hn] at hs1
   clear gx hbn
   generalize sec1 D q = s at *
   generalize nthI D (q + 1) = z at *
   generalize nthI D q = y at *
   generalize nthI D 0 = x at *
   generalize (secL D q).map encI = A at *
   generalize D.map encI = M at *
   simp (maxSteps:=999999) (disch:=first|exact {}|omega|simp) [zS,hlt,gq,gI gq,g0,gI g0,gn,gI gn,h0,hn,hDl,hll,tX,c2]
   (refine ⟨⟨q + 1,by omega⟩,by (simp; try omega), ?_⟩; constructor <;> (simp (maxSteps:=999999) (disch:=first|exact {}|omega|simp) [zS,hst,hs1,hll,tX]) <;> (try omega))
  ·rw [if_neg hn] at hs1
   have hn':¬ ((q:Int) + 1 < D.length):=by omega
   clear gx hbn
   generalize sec1 D q = s at *
   generalize nthI D q = y at *
   generalize nthI D 0 = x at *
   generalize (secL D q).map encI = A at *
   generalize D.map encI = M at *
   simp (maxSteps:=999999) (disch:=first|exact {}|omega|simp) [zS,hlt,gq,gI gq,g0,gI g0,h0,hn,hn',hDl,hll,tX]
   (refine ⟨⟨q + 1,by omega⟩,by (simp; try omega), ?_⟩; constructor <;> (simp (maxSteps:=999999) (disch:=first|exact {}|omega|simp) [zS,hst,hs1,hll,tX]) <;> (try omega))
 ·obtain rfl:q = D.length:=by omega
  simp (maxSteps:=999999) (disch:=first|exact {}|omega|simp) [zS,hlt,tX]
noncomputable def secV (ps:List Pt) (cs:List Cr) (k:Nat) (j:Nat):List Int:=if isBr cs k = true then difL (rotL (dirL ps cs k) j) ((dirL ps cs k).length - 1) else secL (dirL ps cs k) (dirL ps cs k).length
theorem iidx_at {l:List Int} {q:Int} {t:Nat} (ht:t < l.length) (he:nthI l t = q) (h1:∀ i,i < l.length → nthI l i = q → i = t):iidx l q = t:=by
 refine fidx_at ht (fun j hj hjt=>?_) (by rw [← nthI_eq ht]; simpa using he)
 have:¬ nthI l j = q:=fun e=>by have:=h1 j hj e; omega
 rw [nthI_eq hj] at this
 simpa using this
theorem c85 {ps:List Pt} {cs:List Cr} (hv:vB ps cs = true) {k t j:Nat} (hk:k < ps.length) (HB:isBr cs k = true → Brd ps cs k t j):PC E 85 [.agg (encPa ps cs),.i (.int .i64 k)] [.own 1 ((secV ps cs k j).map encI)]:=by
 obtain ⟨hnm,hvp,h40,h70⟩:=vB_facts hv
 have hdl:=dirL_len ps cs k
 have hup:=dirL_up hv k
 have hbd:=dirL_bd hv k
 have hone:=fun i j hi hj e=>dir_one hv k (i:=i) (j:=j) hi hj e
 have hD:=c61 hv hk
 have hBr:=c118 ps cs k (by omega)
 have har:=c159 ps cs hv (by omega) (by omega)
 have hS:=arrS_le (ps:=ps) (cs:=cs) (by omega)
 have hSe:arrS ps cs = arrI ps cs:=by unfold arrS; rw [if_pos hv]
 rw [hSe] at hS
 have hV:secV ps cs k j = if isBr cs k = true then difL (rotL (dirL ps cs k) j) ((dirL ps cs k).length - 1) else secL (dirL ps cs k) (dirL ps cs k).length:=rfl
 by_cases hb:isBr cs k = true
 ·obtain ⟨t1,at_,one,n0,n1,j1,dir⟩:=HB hb
  rw [if_pos hb,← sec_dif hup hbd j1] at hV
  rw [hV]
  have gk:=encPs_get hk
  have gn:=encPs_get (l:=ps) (k:=(nthI (arrI ps cs) ((t + 1) % (arrI ps cs).length)).toNat) (by omega)
  have pk:PV (nth ps k):=vP_bound (hvp _ (nth_mem hk))
  have pn:PV (nth ps (nthI (arrI ps cs) ((t + 1) % (arrI ps cs).length)).toNat):=vP_bound (hvp _ (nth_mem (by omega)))
  have hdr:=c141 _ _ pn pk (by decide) (by decide)
  have hix:=iidx_at t1 at_ one
  have hjx:=iidx_at j1 dir fun i hi e=>hone i j hi j1 (e.trans dir.symm)
  have hso:=c158 (dirL ps cs k) hbd (by omega)
  have hsl:(secL (dirL ps cs k) (dirL ps cs k).length).length = (dirL ps cs k).length:=secL_len _ _
  have hI1:=c160 (arrI ps cs) k (by omega)
  rw [hix] at hI1
  have hI2:=c160 (dirL ps cs k) (dirR (pminus (nth ps (nthI (arrI ps cs) ((t + 1) % (arrI ps cs).length)).toNat) (nth ps k))) (by omega)
  rw [hjx] at hI2
  have hrl:=rotL_len (secL (dirL ps cs k) (dirL ps cs k).length) (j:=j) (by omega)
  have htl:=c161 (secL (dirL ps cs k) (dirL ps cs k).length) j (by omega) (by omega)
  have hm:(t + 1) % (arrI ps cs).length < (arrI ps cs).length:=Nat.mod_lt _ (by omega)
  have gm:((arrI ps cs).map encI)[(t + 1) % (arrI ps cs).length]? = some [.int .i64 (nthI (arrI ps cs) ((t + 1) % (arrI ps cs).length))]:=by rw [List.getElem?_map,List.getElem?_eq_getElem hm,nthI_eq hm]; rfl
  have tA:List.take (arrI ps cs).length ((arrI ps cs).map encI) = (arrI ps cs).map encI:=List.take_of_length_le (by simp)
  have tD:List.take (dirL ps cs k).length ((dirL ps cs k).map encI) = (dirL ps cs k).map encI:=List.take_of_length_le (by simp)
  have tS:List.take (dirL ps cs k).length ((secL (dirL ps cs k) (dirL ps cs k).length).map encI) = (secL (dirL ps cs k) (dirL ps cs k).length).map encI:=List.take_of_length_le (by simp)
  have hAl:((arrI ps cs).map encI).length = (arrI ps cs).length:=by simp
  rw [hb] at hBr
  clear hix hjx one at_ dir hone hup hbd HB hV hSe
  generalize hwd:nthI (arrI ps cs) ((t + 1) % (arrI ps cs).length) = w at *
  rw [List.map_take]
  generalize rotL (secL (dirL ps cs k) (dirL ps cs k).length) j = R at *
  generalize secL (dirL ps cs k) (dirL ps cs k).length = S at *
  generalize dirL ps cs k = D at *
  generalize (arrI ps cs).length = al at *
  generalize (arrI ps cs).map encI = A at *
  obtain ⟨w,rfl⟩:∃ n:Nat,w = n:=⟨w.toNat,by omega⟩
  simp only [Int.toNat_natCast] at *
  have w1:w < ps.length:=by omega
  have al0:¬ al = 0:=by omega
  have em:((t:Int) + 1) % (al:Int) = (((t + 1) % al:Nat):Int):=by simp
  have em2:Int.tmod ((t:Int) + 1) (al:Int) = (((t + 1) % al:Nat):Int):=by rw [Int.tmod_eq_emod_of_nonneg (by omega),em]
  generalize (t + 1) % al = u at *
  refine zP hE Proofs.Tryz.func85 Proofs.Tryz.ntmps85 rfl rfl ?_
  simp (maxSteps:=999999) (disch:=first|exact {}|omega|simp) [zS,encPa]
  refine zC (hD) ?_
  simp (maxSteps:=999999) (disch:=first|exact {}|omega|simp) [zS,encPa]
  refine zC (hBr) ?_
  simp (maxSteps:=999999) (disch:=first|exact {}|omega|simp) [zS,encPa]
  refine zC (har) ?_
  simp (maxSteps:=999999) (disch:=first|exact {}|omega|simp) [zS,tA]
  refine zC (hI1) ?_
  simp (maxSteps:=999999) (disch:=first|exact {}|omega|simp) [zS,em,em2,gm,gI gm,hm,hAl,gk,gI gk,gn,gI gn,hk,w1,al0,tA,tD]
  refine zC (hdr) ?_
  simp (maxSteps:=999999) (disch:=first|exact {}|omega|simp) [zS,tD]
  refine zC (hI2) ?_
  simp (maxSteps:=999999) (disch:=first|exact {}|omega|simp) [zS,tD]
  refine zC (hso) ?_
  simp (maxSteps:=999999) (disch:=first|exact {}|omega|simp) [zS,tS]
  refine zC (htl) ?_
  have hRD:R.length = D.length:=by omega
  simp (maxSteps:=999999) (disch:=first|exact {}|omega|simp) [zS,hRD]
 ·have hb':isBr cs k = false:=by simpa using hb
  rw [if_neg hb] at hV
  rw [hV]
  rw [hb'] at hBr
  have hso:=c158 (dirL ps cs k) hbd (by omega)
  have tD:List.take (dirL ps cs k).length ((dirL ps cs k).map encI) = (dirL ps cs k).map encI:=List.take_of_length_le (by simp)
  have tS:List.take (dirL ps cs k).length ((secL (dirL ps cs k) (dirL ps cs k).length).map encI) = (secL (dirL ps cs k) (dirL ps cs k).length).map encI:=List.take_of_length_le (by simp)
  clear har HB hone hup hbd hV
  generalize secL (dirL ps cs k) (dirL ps cs k).length = S at *
  generalize dirL ps cs k = D at *
  refine zP hE Proofs.Tryz.func85 Proofs.Tryz.ntmps85 rfl rfl ?_
  simp (maxSteps:=999999) (disch:=first|exact {}|omega|simp) [zS,encPa]
  refine zC (hD) ?_
  simp (maxSteps:=999999) (disch:=first|exact {}|omega|simp) [zS,encPa]
  refine zC (hBr) ?_
  simp (maxSteps:=999999) (disch:=first|exact {}|omega|simp) [zS,tD]
  refine zC (hso) ?_
  simp (maxSteps:=999999) (disch:=first|exact {}|omega|simp) [zS,tS]
end Go.Vai
namespace Go.Vai
open Pq
theorem c156' (l:List Int) (h:(l.length:Int) ≤ 1048576):PC E 156 [.i (.sl (l.map encI))] [.own 1 (l.map encI)]:=by
 refine zP hE Proofs.Tryz.func156 Proofs.Tryz.ntmps156 rfl rfl ?_
 simp (maxSteps:=999999) (disch:=first|exact {}|omega|simp) [zS]
theorem c228 (D:List Int) (hup:D.Pairwise (· < ·)) (hb:∀ d ∈ D,0 ≤ d ∧ d ≤ 15) (hl:(D.length:Int) ≤ 1048576):PC E 228 [.i (.sl (D.map encI))] [.i (.bool true)]:=by
 have gx:∀ i,i < D.length → (D.map encI)[i]? = some [.int .i64 (nthI D i)]:=fun i hi=>by rw [List.getElem?_map,List.getElem?_eq_getElem hi,nthI_eq hi]; rfl
 have hDl:(D.map encI).length = D.length:=by simp
 refine zP hE Proofs.Tryz.func228 Proofs.Tryz.ntmps228 rfl rfl ?_
 simp (maxSteps:=999999) (disch:=first|exact {}|omega|simp) [zS]
 refine XL.by hE (ι:={ q:Nat // q ≤ D.length }) (fun q=>⟨[(0,.i (.sl (D.map encI))),(3,.i (.int .i64 q.1))],[]⟩)
  (fun q=>D.length - q.1) ⟨0,Nat.zero_le _⟩ ⟨by simp,by simp,by simp⟩ (by kernel_rfl) ?_
 rintro ⟨q,hq⟩
 by_cases hlt:q < D.length
 ·have gq:=gx q hlt
  have bq:=bd_nth hb hlt
  have hin:inB (nthI D q) 0 15 = true:=by unfold inB; simp; omega
  have hI:=c45 (nthI D q) 0 15
  rw [hin] at hI
  by_cases h0:q = 0
  ·subst h0
   generalize nthI D 0 = x at *
   generalize D.map encI = M at *
   simp (maxSteps:=999999) (disch:=first|exact {}|omega|simp) [zS,hlt,gq,gI gq,hDl]
   refine zC (hI) ?_
   simp (maxSteps:=999999) (disch:=first|exact {}|omega|simp) [zS]
   (refine ⟨⟨1,by omega⟩,by (simp; try omega), ?_⟩; constructor <;> (simp (maxSteps:=999999) (disch:=first|exact {}|omega|simp) [zS]) <;> (try omega))
  ·have gp:=gx (q - 1) (by omega)
   have up:=up_nth hup (i:=q - 1) (j:=q) (by omega) hlt
   have e1:((q:Int) - 1).toNat = q - 1:=by omega
   have e2:¬ ((q:Int) - 1 < 0):=by omega
   have e3:q - 1 < D.length:=by omega
   have e4:(0:Int) < q:=by omega
   clear gx
   generalize nthI D (q - 1) = y at *
   generalize nthI D q = x at *
   generalize D.map encI = M at *
   have e5:¬ x ≤ y:=by omega
   have e6:0 < q:=by omega
   simp (maxSteps:=999999) (disch:=first|exact {}|omega|simp) [zS,hlt,gq,gI gq,hDl]
   refine zC (hI) ?_
   simp (maxSteps:=999999) (disch:=first|exact {}|omega|simp) [zS,e1,e2,e3,e4,e5,e6,gp,gI gp,gq,gI gq,hlt,hDl]
   (refine ⟨⟨q + 1,by omega⟩,by (simp; try omega), ?_⟩; constructor <;> (simp (maxSteps:=999999) (disch:=first|exact {}|omega|simp) [zS]) <;> (try omega))
 ·obtain rfl:q = D.length:=by omega
  simp (maxSteps:=999999) (disch:=first|exact {}|omega|simp) [zS,hlt]
theorem c155 (D:List Int) (hup:D.Pairwise (· < ·)) (hb:∀ d ∈ D,0 ≤ d ∧ d ≤ 15) (hl:(D.length:Int) ≤ 1048576):PC E 155 [.i (.sl (D.map encI))] [.own 1 ((secL D D.length).map encI),.i (.bool (decide (0 < D.length)))]:=by
 have gx:∀ i,i < D.length → (D.map encI)[i]? = some [.int .i64 (nthI D i)]:=fun i hi=>by rw [List.getElem?_map,List.getElem?_eq_getElem hi,nthI_eq hi]; rfl
 have hDl:(D.map encI).length = D.length:=by simp
 have bx:=fun i (hi:i < D.length)=>bd_nth hb hi
 refine zP hE Proofs.Tryz.func155 Proofs.Tryz.ntmps155 rfl rfl ?_
 by_cases h0:D.length = 0
 ·obtain rfl:=List.eq_nil_of_length_eq_zero h0
  simp (maxSteps:=999999) (disch:=first|exact {}|omega|simp) [zS,secL]
 have h0':0 < D.length:=by omega
 simp (maxSteps:=999999) (disch:=first|exact {}|omega|simp) [zS,h0]
 refine zC (c228 D hup hb hl) ?_
 simp (maxSteps:=999999) (disch:=first|exact {}|omega|simp) [zS]
 refine XL.by hE (ι:={ q:Nat // q + 1 ≤ D.length }) (fun q=>⟨[(0,.i (.sl (D.map encI))),(4,.own 33 0 q.1),(5,.i (.int .i64 ((q.1:Int) + 1)))],[(33,⟨1,(secL D q.1).map encI⟩)]⟩)
  (fun q=>D.length - q.1) ⟨0,by omega⟩ ⟨by simp,by simp [secL],by simp⟩ (by kernel_rfl) ?_
 rintro ⟨q,hq⟩
 have hll:((secL D q).map encI).length = q:=by simp
 have tX:List.take q ((secL D q).map encI) = (secL D q).map encI:=List.take_of_length_le (by omega)
 have hst:(secL D (q + 1)).map encI = (secL D q).map encI ++ [[.int .i64 (sec1 D q)]]:=by rw [secL_snoc,List.map_append]; rfl
 have hs1:sec1 D q = (if q + 1 < D.length then nthI D (q + 1) else nthI D 0 + 16) - nthI D q:=rfl
 have gq:=gx q (by omega)
 have bq:=bx q (by omega)
 have c1:((q:Int) + 1).toNat = q + 1:=by omega
 have c2:¬ ((q:Int) + 1 < 0):=by omega
 have c3:(q:Int) + 1 - 1 = q:=by omega
 by_cases hlt:q + 1 < D.length
 ·have gn:=gx (q + 1) hlt
  have bn:=bx (q + 1) hlt
  rw [if_pos hlt] at hs1
  have c4:(q:Int) + 1 < D.length:=by omega
  have c5:q < D.length:=by omega
  clear gx bx
  generalize sec1 D q = s at *
  generalize nthI D (q + 1) = z at *
  generalize nthI D q = y at *
  generalize (secL D q).map encI = A at *
  generalize D.map encI = M at *
  simp (maxSteps:=999999) (disch:=first|exact {}|omega|simp) [zS,hlt,gq,gI gq,gn,gI gn,hDl,hll,tX,c1,c2,c3,c4,c5]
  (refine ⟨⟨q + 1,by omega⟩,by (simp; try omega), ?_⟩; constructor <;> (simp (maxSteps:=999999) (disch:=first|exact {}|omega|simp) [zS,hst,hs1,hll,tX]) <;> (try omega))
 ·have hq1:D.length = q + 1:=by omega
  have g0:=gx 0 (by omega)
  have b0:=bx 0 (by omega)
  rw [if_neg hlt] at hs1
  have hst':=hst
  rw [← hq1] at hst'
  have d1:((D.length:Int) - 1).toNat = q:=by omega
  have d2:¬ ((D.length:Int) - 1 < 0):=by omega
  have d3:(D.length:Int) - 1 = q:=by omega
  have d4:q < D.length:=by omega
  have d5:¬ ((q:Int) + 1 < D.length):=by omega
  have d6:(secL D D.length).length = q + 1:=by simp [hq1]
  clear gx bx hst
  generalize sec1 D q = s at *
  generalize nthI D 0 = x at *
  generalize nthI D q = y at *
  generalize (secL D D.length).map encI = A2 at *
  generalize (secL D q).map encI = A at *
  generalize D.map encI = M at *
  generalize D.length = n at *
  simp (maxSteps:=999999) (disch:=first|exact {}|omega|simp) [zS,gq,gI gq,g0,gI g0,hDl,hll,tX,h0',d1,d2,d3,d4,d5]
  subst hq1
  simp only [hst',hs1]
  try exact (List.take_of_length_le (by simp; omega)).symm
theorem c84 {ps:List Pt} {cs:List Cr} (hv:vB ps cs = true) {k t j:Nat} (hk:k < ps.length) (HB:isBr cs k = true → Brd ps cs k t j):PC E 84 [.i (.ptr (encPa ps cs)),.i (.sl ((arrI ps cs).map encI)),.i (.int .i64 k)] [.own 1 ((secV ps cs k j).map encI)]:=by
 obtain ⟨hnm,hvp,h40,h70⟩:=vB_facts hv
 have hdl:=dirL_len ps cs k
 have hup:=dirL_up hv k
 have hbd:=dirL_bd hv k
 have hone:=fun i j hi hj e=>dir_one hv k (i:=i) (j:=j) hi hj e
 have hD:=c60 hv hk
 have hS:=arrS_le (ps:=ps) (cs:=cs) (by omega)
 have hSe:arrS ps cs = arrI ps cs:=by unfold arrS; rw [if_pos hv]
 have ha:=isBr_arr hv k hk
 rw [hSe] at hS ha
 have hH:=h116 (arrI ps cs) (k:Int) (by omega)
 rw [← ha] at hH
 have hV:secV ps cs k j = if isBr cs k = true then difL (rotL (dirL ps cs k) j) ((dirL ps cs k).length - 1) else secL (dirL ps cs k) (dirL ps cs k).length:=rfl
 have tD:List.take (dirL ps cs k).length ((dirL ps cs k).map encI) = (dirL ps cs k).map encI:=List.take_of_length_le (by simp)
 by_cases hb:isBr cs k = true
 rotate_left
 ·have hb':isBr cs k = false:=by simpa using hb
  rw [if_neg hb] at hV
  rw [hV]
  rw [hb'] at hH
  have hso:=c155 (dirL ps cs k) hup hbd (by omega)
  have tS:List.take (dirL ps cs k).length ((secL (dirL ps cs k) (dirL ps cs k).length).map encI) = (secL (dirL ps cs k) (dirL ps cs k).length).map encI:=List.take_of_length_le (by simp)
  clear HB hone hup hbd hV ha
  generalize secL (dirL ps cs k) (dirL ps cs k).length = S at *
  generalize dirL ps cs k = D at *
  refine zP hE Proofs.Tryz.func84 Proofs.Tryz.ntmps84 rfl rfl ?_
  simp (maxSteps:=999999) (disch:=first|exact {}|omega|simp) [zS]
  refine zC (hD) ?_
  simp (maxSteps:=999999) (disch:=first|exact {}|omega|simp) [zS,tD]
  refine zC (hH) ?_
  simp (maxSteps:=999999) (disch:=first|exact {}|omega|simp) [zS,tD]
  refine zC (hso) ?_
  simp (maxSteps:=999999) (disch:=first|exact {}|omega|simp) [zS,tS]
 obtain ⟨t1,at_,one,n0,n1,j1,dir⟩:=HB hb
 rw [if_pos hb] at hV
 rw [hV]
 rw [hb] at hH
 have pk:PV (nth ps k):=vP_bound (hvp _ (nth_mem hk))
 have pn:PV (nth ps (nthI (arrI ps cs) ((t + 1) % (arrI ps cs).length)).toNat):=vP_bound (hvp _ (nth_mem (by omega)))
 have hdr:=c121 (cs:=cs) hk (show (nthI (arrI ps cs) ((t + 1) % (arrI ps cs).length)).toNat < ps.length by omega) pk pn
 rw [← dir,show (((nthI (arrI ps cs) ((t + 1) % (arrI ps cs).length)).toNat:Nat):Int) = nthI (arrI ps cs) ((t + 1) % (arrI ps cs).length) by omega] at hdr
 have gA:∀ i,i < (arrI ps cs).length → ((arrI ps cs).map encI)[i]? = some [.int .i64 (nthI (arrI ps cs) i)]:=fun i hi=>by rw [List.getElem?_map,List.getElem?_eq_getElem hi,nthI_eq hi]; rfl
 have hAl:((arrI ps cs).map encI).length = (arrI ps cs).length:=by simp
 have hmod:∀ i:Nat,(i + 1) % (arrI ps cs).length < (arrI ps cs).length:=fun i=>Nat.mod_lt _ (by omega)
 clear HB hV ha hSe hup dir pk pn hvp hnm
 generalize dirL ps cs k = D at *
 generalize hNX:nthI (arrI ps cs) ((t + 1) % (arrI ps cs).length) = NX at *
 generalize arrI ps cs = R at *
 have hR0:¬ R.length = 0:=by omega
 refine zP hE Proofs.Tryz.func84 Proofs.Tryz.ntmps84 rfl rfl ?_
 simp (maxSteps:=999999) (disch:=first|exact {}|omega|simp) [zS]
 refine zC (hD) ?_
 simp (maxSteps:=999999) (disch:=first|exact {}|omega|simp) [zS,tD]
 refine zC (hH) ?_
 simp (maxSteps:=999999) (disch:=first|exact {}|omega|simp) [zS]
 refine XL.by hE (ι:={ q:Nat // q ≤ R.length }) (fun q=>⟨[(0,.i (.ptr (encPa ps cs))),(1,.i (.sl (R.map encI))),(2,.i (.int .i64 k)),(7,.i (.sl (D.map encI))),(10,.i (.int .i64 (if t < q.1 then NX else 0))),(11,.i (.int .i64 q.1))],[]⟩)
  (fun q=>R.length - q.1) ⟨0,Nat.zero_le _⟩ ⟨by simp [tD],by simp,by simp⟩ (by kernel_rfl) ?_
 rintro ⟨q,hq⟩
 by_cases hlt:q < R.length
 ·have gq:=gA q hlt
  have hq1:=one q hlt
  have hm:=hmod q
  have gm:=gA ((q + 1) % R.length) hm
  have em:Int.tmod ((q:Int) + 1) (R.length:Int) = (((q + 1) % R.length:Nat):Int):=by rw [Int.tmod_eq_emod_of_nonneg (by omega)]; simp
  by_cases e:nthI R q = k
  ·obtain rfl:=hq1 e
   rw [hNX] at gm
   have i1:(if q < q then NX else 0) = 0:=by simp
   have i2:(if q < q + 1 then NX else 0) = NX:=by simp
   clear gA one hmod hNX
   generalize R.map encI = M at *
   generalize R.length = n at *
   generalize (q + 1) % n = u at *
   rw [i1]
   simp (maxSteps:=999999) (disch:=first|exact {}|omega|simp) [zS,hlt,gq,gI gq,e,em,gm,gI gm,hm,hAl,hR0]
   (refine ⟨⟨q + 1,by omega⟩,by (simp; try omega), ?_⟩; constructor <;> (simp (maxSteps:=999999) (disch:=first|exact {}|omega|simp) [zS,i2]) <;> (try omega))
  ·have hne:q ≠ t:=fun e'=>e (e' ▸ at_)
   have i1:(if t < q + 1 then NX else 0) = (if t < q then NX else 0):=by
    by_cases e':t < q
    ·rw [if_pos e',if_pos (by omega)]
    ·rw [if_neg e',if_neg (by omega)]
   clear gA one hmod
   generalize nthI R q = x at *
   generalize R.map encI = M at *
   generalize (if t < q then NX else 0) = y at *
   simp (maxSteps:=999999) (disch:=first|exact {}|omega|simp) [zS,hlt,gq,gI gq,e,hAl]
   (refine ⟨⟨q + 1,by omega⟩,by (simp; try omega), ?_⟩; constructor <;> (simp (maxSteps:=999999) (disch:=first|exact {}|omega|simp) [zS,i1]) <;> (try omega))
 obtain rfl:q = R.length:=by omega
 have i1:(if t < R.length then NX else 0) = NX:=if_pos t1
 rw [i1]
 simp (maxSteps:=999999) (disch:=first|exact {}|omega|simp) [zS]
 refine zC (hdr) ?_
 simp (maxSteps:=999999) (disch:=first|exact {}|omega|simp) [zS]
 have hd1:(D.map encI).length = D.length:=by simp
 clear gA hmod
 refine XL.by hE (ι:={ i:Nat // i ≤ j }) (fun i=>⟨[(7,.i (.sl ((rotL D i.1).map encI))),(12,.i (.int .i64 (nthI D j)))],[]⟩)
  (fun i=>j - i.1) ⟨0,Nat.zero_le _⟩ ⟨by simp [rotL],by simp,by simp⟩ (by kernel_rfl) ?_
 rintro ⟨i,hi⟩
 have hrl:=rotL_len D (j:=i) (by omega)
 have hr0:=rotL_nth (D:=D) (j:=i) (t:=0) (by omega) (by omega)
 rw [if_pos (by omega),Nat.add_zero] at hr0
 have g0:((rotL D i).map encI)[0]? = some [.int .i64 (nthI (rotL D i) 0)]:=by rw [List.getElem?_map,List.getElem?_eq_getElem (by omega),nthI_eq (by omega)]; rfl
 by_cases hij:i = j
 rotate_left
 ·have hne:¬ nthI D i = nthI D j:=fun e=>hij (hone i j (by omega) j1 e)
  have hnx:=rotL_next (D:=D) (j:=i) (by omega)
  have hst:(rotL D (i + 1)).map encI = ((rotL D i).drop 1).map encI ++ [[.int .i64 (nthI (rotL D i) 0)]]:=by rw [← hnx,List.map_append]; rfl
  rw [hr0] at g0 hst
  have hd1:List.drop 1 ((rotL D i).map encI) = ((rotL D i).drop 1).map encI:=by simp
  have hmm:=mem_encI (rotL D i)
  have hml:((rotL D i).map encI).length = D.length:=by simpa using hrl
  have hdl1:(((rotL D i).drop 1).map encI).length = D.length - 1:=by simp; omega
  have hdl2:((rotL D i).drop 1).length = D.length - 1:=by simp; omega
  have how:=c156' ((rotL D i).drop 1) (by omega)
  clear hnx
  generalize (rotL D i).drop 1 = U at *
  generalize (rotL D i).map encI = M at *
  generalize nthI D i = x at *
  have c0:0 < D.length:=by omega
  have c1:1 ≤ D.length:=by omega
  have tU:List.take (D.length - 1) (U.map encI) = U.map encI:=List.take_of_length_le (by omega)
  have tM:List.take (D.length - 1) (List.drop 1 M) = U.map encI:=by rw [hd1,tU]
  simp (maxSteps:=999999) (disch:=first|exact {}|omega|simp) [zS,g0,gI g0,hne,hml,c0,c1,hd1,tU,tM,hmm]
  refine zC (how) ?_
  simp (maxSteps:=999999) (disch:=first|exact {}|omega|simp) [zS,g0,gI g0,hml,c0,hdl2,tU]
  (refine ⟨⟨i + 1,by omega⟩,by (simp; try omega), ?_⟩; constructor <;> (simp (maxSteps:=999999) (disch:=first|exact {}|omega|simp) [zS,hst,tU]) <;> (try omega))
  exact List.take_of_length_le (by simp; omega)
 subst hij
 rw [hr0] at g0
 generalize hL:rotL D i = L at *
 have hml:(L.map encI).length = D.length:=by simpa using hrl
 have c0:0 < D.length:=by omega
 have gL:∀ q,q < D.length → (L.map encI)[q]? = some [.int .i64 (nthI L q)]:=fun q hq=>by rw [List.getElem?_map,List.getElem?_eq_getElem (by omega),nthI_eq (by omega)]; rfl
 have bL:∀ q,q < D.length → 0 ≤ nthI L q ∧ nthI L q ≤ 15:=fun q hq=>by
  rw [← hL,rotL_nth (by omega) hq]
  exact bd_nth hbd (by split <;> omega)
 have g0':=g0
 clear g0 hr0 hL
 simp (maxSteps:=999999) (disch:=first|exact {}|omega|simp) [zS,g0',gI g0',hml,c0]
 refine XL.by hE (ι:={ q:Nat // q + 1 ≤ D.length }) (fun q=>⟨[(7,.i (.sl (L.map encI))),(13,.own 85 0 q.1),(14,.i (.int .i64 ((q.1:Int) + 1)))],[(85,⟨1,(difL L q.1).map encI⟩)]⟩)
  (fun q=>D.length - q.1) ⟨0,by omega⟩ ⟨by simp,by simp [difL],by simp⟩ (by kernel_rfl) ?_
 rintro ⟨q,hq⟩
 have hll:((difL L q).map encI).length = q:=by simp
 have tX:List.take q ((difL L q).map encI) = (difL L q).map encI:=List.take_of_length_le (by omega)
 have hst:(difL L (q + 1)).map encI = (difL L q).map encI ++ [[.int .i64 ((nthI L (q + 1) - nthI L q) % 16)]]:=by rw [difL_snoc,List.map_append]; rfl
 have d1:((q:Int) + 1).toNat = q + 1:=by omega
 have d2:¬ ((q:Int) + 1 < 0):=by omega
 have d3:(q:Int) + 1 - 1 = q:=by omega
 by_cases hlt:q + 1 < D.length
 ·have gq:=gL q (by omega)
  have gn:=gL (q + 1) hlt
  have bq:=bL q (by omega)
  have bn:=bL (q + 1) hlt
  have d4:(q:Int) + 1 < D.length:=by omega
  have d5:q < D.length:=by omega
  clear gL bL
  have hmd:=c157 (nthI L (q + 1) - nthI L q) (by omega) (by omega)
  generalize nthI L (q + 1) = z at *
  generalize nthI L q = y at *
  generalize (z - y) % 16 = r at *
  generalize (difL L q).map encI = A at *
  generalize L.map encI = M at *
  simp (maxSteps:=999999) (disch:=first|exact {}|omega|simp) [zS,hlt,gq,gI gq,gn,gI gn,hml,hll,tX,d1,d2,d3,d4,d5]
  refine zC (hmd) ?_
  simp (maxSteps:=999999) (disch:=first|exact {}|omega|simp) [zS,hll,tX]
  (refine ⟨⟨q + 1,by omega⟩,by (simp; try omega), ?_⟩; constructor <;> (simp (maxSteps:=999999) (disch:=first|exact {}|omega|simp) [zS,hst,hll,tX]) <;> (try omega))
 ·have d5:¬ ((q:Int) + 1 < D.length):=by omega
  have d6:q = D.length - 1:=by omega
  clear gL bL
  generalize L.map encI = M at *
  simp (maxSteps:=999999) (disch:=first|exact {}|omega|simp) [zS,d5,hml,tX]
  rw [d6]
theorem brd_ex (ps:List Pt) (cs:List Cr) (k:Int):∃ t j:Nat,okK ps cs k = true → isBr cs k = true → Brd ps cs k.toNat t j:=by
 by_cases h:okK ps cs k = true
 ·by_cases hb:isBr cs k = true
  ·obtain ⟨hv,n,rfl,hn⟩:=okK_nat h
   obtain ⟨t,j,B⟩:=brd_of hv hn hb
   exact ⟨t,j,fun _ _=>B⟩
  ·exact ⟨0,0,fun _ e=>absurd e hb⟩
 ·exact ⟨0,0,fun e=>absurd e h⟩
end Go.Vai
namespace Go.Vai
open Pq
noncomputable def plT (ps:List Pt) (cs:List Cr) (k:Int):Nat:=Classical.choose (brd_ex ps cs k)
noncomputable def plJ (ps:List Pt) (cs:List Cr) (k:Int):Nat:=Classical.choose (Classical.choose_spec (brd_ex ps cs k))
theorem pl_brd {ps:List Pt} {cs:List Cr} {k:Nat} (h:okK ps cs k = true):isBr cs k = true → Brd ps cs k (plT ps cs k) (plJ ps cs k) :=
 fun hb=>Classical.choose_spec (Classical.choose_spec (brd_ex ps cs k)) h hb
noncomputable def secA (ps:List Pt) (cs:List Cr) (k:Int):List Int:=if okK ps cs k = true then secV ps cs k.toNat (plJ ps cs k) else []
theorem secV_len (ps:List Pt) (cs:List Cr) (k j:Nat):(secV ps cs k j).length ≤ cs.length:=by
 have:=dirL_len ps cs k
 unfold secV
 split <;> simp <;> omega
theorem secA_len (ps:List Pt) (cs:List Cr) (k:Int):(secA ps cs k).length ≤ 70:=by
 unfold secA
 split
 ·rename_i h; exact len_of (secV_len _ _ _ _) h
 ·simp
theorem c36 (ps:List Pt) (cs:List Cr) (k:Int) (h:(ps.length:Int) ≤ 1048576) (hc:(cs.length:Int) ≤ 1048576):PC E 36 [.agg (encPa ps cs),.i (.int .i64 k)] [.own 1 ((secA ps cs k).map encI),.i (.int .i64 (codeK ps cs k))]:=by
 refine zP hE Proofs.Tryz.func36 Proofs.Tryz.ntmps36 rfl rfl ?_
 simp (maxSteps:=999999) (disch:=first|exact {}|omega|simp) [zS,encPa]
 refine zC (c56 ps cs k h hc) ?_
 simp (maxSteps:=999999) (disch:=first|exact {}|omega|simp) [zS]
 by_cases hp:okK ps cs k = true
 ·have e0:=codeK_ok.2 hp
  have e1:secA ps cs k = secV ps cs k.toNat (plJ ps cs k):=by unfold secA; rw [if_pos hp]
  obtain ⟨hv,n,rfl,hn⟩:=okK_nat hp
  simp only [Int.toNat_natCast] at e1
  have hsc:=c85 hv hn (pl_brd hp)
  generalize secV ps cs n (plJ ps cs n) = V at *
  have tX:List.take V.length (V.map encI) = V.map encI:=List.take_of_length_le (by simp)
  simp (maxSteps:=999999) (disch:=first|exact {}|omega|simp) [zS,e0,e1,encPa]
  refine zC (hsc) ?_
  simp (maxSteps:=999999) (disch:=first|exact {}|omega|simp) [zS,tX]
 ·have e0:¬ codeK ps cs k = 0:=fun e=>hp (codeK_ok.1 e)
  have e1:secA ps cs k = []:=by unfold secA; rw [if_neg hp]
  simp (maxSteps:=999999) (disch:=first|exact {}|omega|simp) [zS,e0,e1]
theorem c35 (ps:List Pt) (cs:List Cr) (k:Int) (h:(ps.length:Int) ≤ 1048576) (hc:(cs.length:Int) ≤ 1048576):PC E 35 [.agg (encPa ps cs),.i (.int .i64 k)] [.own 1 ((secA ps cs k).map encI),.i (.int .i64 (codeK ps cs k))]:=by
 refine zP hE Proofs.Tryz.func35 Proofs.Tryz.ntmps35 rfl rfl ?_
 simp (maxSteps:=999999) (disch:=first|exact {}|omega|simp) [zS,encPa]
 refine zC (c54 ps cs k h hc) ?_
 simp (maxSteps:=999999) (disch:=first|exact {}|omega|simp) [zS]
 by_cases hp:okK ps cs k = true
 ·have e0:=codeK_ok.2 hp
  have e1:secA ps cs k = secV ps cs k.toNat (plJ ps cs k):=by unfold secA; rw [if_pos hp]
  have e2:askR ps cs k = arrI ps cs:=by unfold askR; rw [if_pos hp]
  obtain ⟨hv,n,rfl,hn⟩:=okK_nat hp
  simp only [Int.toNat_natCast] at e1
  have hsc:=c84 hv hn (pl_brd hp)
  have tA:List.take (arrI ps cs).length ((arrI ps cs).map encI) = (arrI ps cs).map encI:=List.take_of_length_le (by simp)
  generalize secV ps cs n (plJ ps cs n) = V at *
  have tX:List.take V.length (V.map encI) = V.map encI:=List.take_of_length_le (by simp)
  simp (maxSteps:=999999) (disch:=first|exact {}|omega|simp) [zS,e0,e1,e2,encPa,tA]
  refine zC (hsc) ?_
  simp (maxSteps:=999999) (disch:=first|exact {}|omega|simp) [zS,tX]
 ·have e0:¬ codeK ps cs k = 0:=fun e=>hp (codeK_ok.1 e)
  have e1:secA ps cs k = []:=by unfold secA; rw [if_neg hp]
  simp (maxSteps:=999999) (disch:=first|exact {}|omega|simp) [zS,e0,e1]
def Sb (L:List Int):Prop:=∀ x ∈ L,1 ≤ x ∧ x ≤ 16
theorem Sb.at {L:List Int} (h:Sb L) {q:Nat} (hq:q < L.length):1 ≤ nthI L q ∧ nthI L q ≤ 16:=by
 rw [nthI_eq hq]; exact h _ (List.getElem_mem hq)
theorem Sb.inB {L:List Int} (h:Sb L) {q:Nat} (hq:q < L.length):inB (nthI L q) 1 16 = true:=by
 have:=h.at hq
 unfold Go.Vai.inB; simp; omega
theorem get_I {L:List Int} {q:Nat} (hq:q < L.length):(L.map encI)[q]? = some [.int .i64 (nthI L q)]:=by rw [List.getElem?_map,List.getElem?_eq_getElem hq,nthI_eq hq]; rfl
theorem c300 (xs:List Int) (g:FuncId) (caps:List IV) (p:Int → Bool) (hp:∀ x ∈ xs,PC E g (.i (.int .i64 x) :: caps.map .i) [.i (.bool (p x))]) (h:(xs.length:Int) ≤ 1048576) :
  PC E 300 [.i (.sl (xs.map encI)),.i (.fn g caps)] [.i (.int .i64 (fidx p xs))]:=by
 refine zP hE Proofs.Tryz.func300 Proofs.Tryz.ntmps300 rfl rfl ?_
 simp (maxSteps:=999999) (disch:=first|exact {}|omega|simp) [zS]
 refine XL.by hE (ι:={ k:Nat // k ≤ xs.length ∧ ∀ (j:Nat) (hj:j < xs.length),j < k → p xs[j] = false }) (fun k=>⟨[(0,.i (.sl (xs.map encI))),(1,.i (.fn g caps)),(7,.i (.int .i64 xs.length)),(8,.i (.int .i64 k.1))],[]⟩)
  (fun k=>xs.length - k.1) ⟨0,Nat.zero_le _,by simp⟩ ⟨by simp,by simp,by simp⟩ (by kernel_rfl) ?_
 rintro ⟨k,hk,hno⟩
 by_cases hlt:k < xs.length
 ·simp (maxSteps:=999999) (disch:=first|exact {}|omega|simp) [zS,hlt,encI]
  refine zC (hp xs[k] (List.getElem_mem _)) ?_
  simp (maxSteps:=999999) (disch:=first|exact {}|omega|simp) [zS,hlt,encI]
  (first | refine Gd.dec (fun h4=>?_) (fun h4=>?_) | refine Gd.intro (fun h4=>?_) (fun h4=>?_)) <;> simp (maxSteps:=999999) (disch:=first|exact {}|omega|simp) [zS,h4]
  ·simp [fidx_at hlt hno h4]
  ·(refine ⟨⟨k + 1,by omega,step_no hno hlt h4⟩,by (simp; try omega), ?_⟩; constructor <;> (simp (maxSteps:=999999) (disch:=first|exact {}|omega|simp) [zS]) <;> (try omega))
 ·obtain rfl:k = xs.length:=by omega
  simp (maxSteps:=999999) (disch:=first|exact {}|omega|simp) [zS,fidx_none fun j hj=>hno j hj hj]
theorem c292 (xs:List Int) (g:FuncId) (caps:List IV) (p:Int → Bool) (hp:∀ x ∈ xs,PC E g (.i (.int .i64 x) :: caps.map .i) [.i (.bool (p x))]) (h:(xs.length:Int) ≤ 1048576) :
  PC E 292 [.i (.sl (xs.map encI)),.i (.fn g caps)] [.i (.bool (xs.any p))]:=by
 refine zP hE Proofs.Tryz.func292 Proofs.Tryz.ntmps292 rfl rfl ?_
 simp (maxSteps:=999999) (disch:=first|exact {}|omega|simp) [zS]
 refine zC (c300 xs g caps p hp h) ?_
 simp (maxSteps:=999999) (disch:=first|exact {}|omega|simp) [zS,fidx_any]
theorem c293 (n:Int):PC E 293 [.i (.int .i64 n)] [.i (.bool (!(inB n 1 16)))]:=by
 refine zP hE Proofs.Tryz.func293 Proofs.Tryz.ntmps293 rfl rfl ?_
 simp (maxSteps:=999999) (disch:=first|exact {}|omega|simp) [zS]
 refine zC (c109 n 1 16) ?_
 simp (maxSteps:=999999) (disch:=first|exact {}|omega|simp) [zS]
theorem c294 (L:List Int) (hb:Sb L) (hl:(L.length:Int) ≤ 1048576):PC E 294 [.i (.sl (L.map encI))] [.i (.int .i64 (smN L L.length))]:=by
 refine zP hE Proofs.Tryz.func294 Proofs.Tryz.ntmps294 rfl rfl ?_
 simp (maxSteps:=999999) (disch:=first|exact {}|omega|simp) [zS]
 refine XL.by hE (ι:={ q:Nat // q ≤ L.length }) (fun q=>⟨[(3,.i (.int .i64 (smN L q.1))),(6,.i (.sl (L.map encI))),(7,.i (.int .i64 L.length)),(8,.i (.int .i64 q.1))],[]⟩)
  (fun q=>L.length - q.1) ⟨0,Nat.zero_le _⟩ ⟨by simp [smN],by simp,by simp⟩ (by kernel_rfl) ?_
 rintro ⟨q,hq⟩
 have bd:=smN_bd hb q hq
 by_cases hlt:q < L.length
 ·have hst:smN L (q + 1) = smN L q + nthI L q:=rfl
  have hg:=get_I hlt
  have b1:=hb.at hlt
  generalize smN L q = s at *
  generalize nthI L q = x at *
  simp (maxSteps:=999999) (disch:=first|exact {}|omega|simp) [zS,hlt,hg,gI hg]
  (refine ⟨⟨q + 1,by omega⟩,by (simp; try omega), ?_⟩; constructor <;> (simp (maxSteps:=999999) (disch:=first|exact {}|omega|simp) [zS,hst]) <;> (try omega))
 ·obtain rfl:q = L.length:=by omega
  simp (maxSteps:=999999) (disch:=first|exact {}|omega|simp) [zS,hlt]
theorem c271 (L:List Int) (hb:Sb L) (hl:(L.length:Int) ≤ 1048576):PC E 271 [.i (.sl (L.map encI))] [.i (.bool (okS L))]:=by
 have hd:okS L = (decide (L.length ≤ 16) && decide (smN L L.length = 16)):=rfl
 have hcf:=c292 L 293 [] (fun n=>!(inB n 1 16)) (fun n _=>c293 n) hl
 have hno:(L.any fun n=>!(inB n 1 16)) = false:=by
  rw [List.any_eq_false]
  intro x hx
  have:=hb x hx
  unfold Go.Vai.inB; simp; omega
 rw [hno] at hcf
 have hsm:=c294 L hb hl
 generalize smN L L.length = s at *
 rw [hd]
 refine zP hE Proofs.Tryz.func271 Proofs.Tryz.ntmps271 rfl rfl ?_
 by_cases h16:L.length ≤ 16
 ·have e1:(L.length:Int) ≤ 16:=by omega
  simp (maxSteps:=999999) (disch:=first|exact {}|omega|simp) [zS,e1]
  refine zC (hcf) ?_
  simp (maxSteps:=999999) (disch:=first|exact {}|omega|simp) [zS]
  refine zC (hsm) ?_
  simp (maxSteps:=999999) (disch:=first|exact {}|omega|simp) [zS,h16]
 ·have e1:¬ (L.length:Int) ≤ 16:=by omega
  simp (maxSteps:=999999) (disch:=first|exact {}|omega|simp) [zS,e1,h16]
theorem c272 (L:List Int) (hb:Sb L) (hl:(L.length:Int) ≤ 1048576):PC E 272 [.i (.sl (L.map encI))] [.i (.int .i64 (alN L L.length))]:=by
 refine zP hE Proofs.Tryz.func272 Proofs.Tryz.ntmps272 rfl rfl ?_
 simp (maxSteps:=999999) (disch:=first|exact {}|omega|simp) [zS]
 refine XL.by hE (ι:={ q:Nat // q ≤ L.length }) (fun q=>⟨[(3,.i (.int .i64 (alN L q.1))),(6,.i (.sl (L.map encI))),(7,.i (.int .i64 L.length)),(8,.i (.int .i64 q.1))],[]⟩)
  (fun q=>L.length - q.1) ⟨0,Nat.zero_le _⟩ ⟨by simp [alN],by simp,by simp⟩ (by kernel_rfl) ?_
 rintro ⟨q,hq⟩
 have bd:=alN_bd hb q hq
 by_cases hlt:q < L.length
 ·have hst:alN L (q + 1) = if q % 2 = 0 then alN L q + nthI L q else alN L q - nthI L q:=rfl
  have hg:=get_I hlt
  have b1:=hb.at hlt
  have em:Int.tmod (q:Int) 2 = ((q % 2:Nat):Int):=by rw [Int.tmod_eq_emod_of_nonneg (by omega)]; simp
  generalize alN L q = s at *
  generalize nthI L q = x at *
  by_cases e:q % 2 = 0
  ·rw [if_pos e] at hst
   rw [e] at em
   simp (maxSteps:=999999) (disch:=first|exact {}|omega|simp) [zS,hlt,hg,gI hg,em]
   (refine ⟨⟨q + 1,by omega⟩,by (simp; try omega), ?_⟩; constructor <;> (simp (maxSteps:=999999) (disch:=first|exact {}|omega|simp) [zS,hst]) <;> (try omega))
  ·rw [if_neg e] at hst
   have e1:q % 2 = 1:=by omega
   rw [e1] at em
   simp (maxSteps:=999999) (disch:=first|exact {}|omega|simp) [zS,hlt,hg,gI hg,em]
   (refine ⟨⟨q + 1,by omega⟩,by (simp; try omega), ?_⟩; constructor <;> (simp (maxSteps:=999999) (disch:=first|exact {}|omega|simp) [zS,hst]) <;> (try omega))
 ·obtain rfl:q = L.length:=by omega
  simp (maxSteps:=999999) (disch:=first|exact {}|omega|simp) [zS,hlt]
def altO (L:List Int):Bool:=okS L && decide (L.length % 2 = 0)
def altV (L:List Int):Int:=if altO L = true then alN L L.length else 0
theorem kawB_alt (L:List Int):kawB L = (altO L && decide (altV L = 0)):=by
 unfold kawB altV
 show (altO L && decide (alN L L.length = 0)) = _
 cases h:altO L <;> simp
theorem c227 (L:List Int) (hb:Sb L) (hl:(L.length:Int) ≤ 1048576):PC E 227 [.i (.sl (L.map encI))] [.i (.int .i64 (altV L)),.i (.bool (altO L))]:=by
 have ho:altO L = (okS L && decide (L.length % 2 = 0)):=rfl
 have hv:altV L = if altO L = true then alN L L.length else 0:=rfl
 have hV:=c271 L hb hl
 have hA:=c272 L hb hl
 have em:Int.tmod (L.length:Int) 2 = ((L.length % 2:Nat):Int):=by rw [Int.tmod_eq_emod_of_nonneg (by omega)]; simp
 generalize alN L L.length = a at *
 generalize okS L = o at *
 refine zP hE Proofs.Tryz.func227 Proofs.Tryz.ntmps227 rfl rfl ?_
 simp (maxSteps:=999999) (disch:=first|exact {}|omega|simp) [zS]
 refine zC (hV) ?_
 cases o
 ·rw [Bool.false_and] at ho
  simp (maxSteps:=999999) (disch:=first|exact {}|omega|simp) [zS,ho,hv]
 ·rw [Bool.true_and] at ho
  by_cases e:L.length % 2 = 0
  ·rw [e] at em
   have ho':altO L = true:=by rw [ho]; simpa using e
   simp (maxSteps:=999999) (disch:=first|exact {}|omega|simp) [zS,em]
   refine zC (hA) ?_
   simp (maxSteps:=999999) (disch:=first|exact {}|omega|simp) [zS,hv,ho']
  ·have e1:L.length % 2 = 1:=by omega
   rw [e1] at em
   have ho':altO L = false:=by rw [ho]; simpa using e
   simp (maxSteps:=999999) (disch:=first|exact {}|omega|simp) [zS,em,hv,ho']
theorem c154 (L:List Int) (hb:Sb L) (hl:(L.length:Int) ≤ 1048576):PC E 154 [.i (.sl (L.map encI))] [.i (.bool (kawB L))]:=by
 have hk:=kawB_alt L
 have hA:=c227 L hb hl
 rw [hk]
 generalize altV L = v at *
 generalize altO L = o at *
 refine zP hE Proofs.Tryz.func154 Proofs.Tryz.ntmps154 rfl rfl ?_
 simp (maxSteps:=999999) (disch:=first|exact {}|omega|simp) [zS]
 refine zC (hA) ?_
 cases o <;> simp (maxSteps:=999999) (disch:=first|exact {}|omega|simp) [zS]
theorem c235 (L:List Int) (hb:Sb L) (hl:(L.length:Int) ≤ 1048576):PC E 235 [.i (.sl (L.map encI))] [.i (.bool (okS L))]:=by
 have hd:okS L = (decide (L.length ≤ 16) && decide (smN L L.length = 16)):=rfl
 rw [hd]
 refine zP hE Proofs.Tryz.func235 Proofs.Tryz.ntmps235 rfl rfl ?_
 simp (maxSteps:=999999) (disch:=first|exact {}|omega|simp) [zS]
 refine XL.by hE (ι:={ q:Nat // q ≤ L.length }) (fun q=>⟨[(0,.i (.sl (L.map encI))),(3,.i (.int .i64 (smN L q.1))),(4,.i (.int .i64 q.1))],[]⟩)
  (fun q=>L.length - q.1) ⟨0,Nat.zero_le _⟩ ⟨by simp [smN],by simp,by simp⟩ (by kernel_rfl) ?_
 rintro ⟨q,hq⟩
 have bd:=smN_bd hb q hq
 by_cases hlt:q < L.length
 ·have hst:smN L (q + 1) = smN L q + nthI L q:=rfl
  have hg:=get_I hlt
  have b1:=hb.at hlt
  have hI:=c45 (nthI L q) 1 16
  rw [hb.inB hlt] at hI
  generalize smN L q = s at *
  generalize nthI L q = x at *
  simp (maxSteps:=999999) (disch:=first|exact {}|omega|simp) [zS,hlt,hg,gI hg]
  refine zC (hI) ?_
  simp (maxSteps:=999999) (disch:=first|exact {}|omega|simp) [zS,hlt,hg,gI hg]
  (refine ⟨⟨q + 1,by omega⟩,by (simp; try omega), ?_⟩; constructor <;> (simp (maxSteps:=999999) (disch:=first|exact {}|omega|simp) [zS,hst]) <;> (try omega))
 ·obtain rfl:q = L.length:=by omega
  generalize smN L L.length = s at *
  by_cases h16:L.length ≤ 16
  ·have e1:(L.length:Int) ≤ 16:=by omega
   simp (maxSteps:=999999) (disch:=first|exact {}|omega|simp) [zS,hlt,e1,h16]
  ·have e1:¬ (L.length:Int) ≤ 16:=by omega
   simp (maxSteps:=999999) (disch:=first|exact {}|omega|simp) [zS,hlt,e1,h16]
theorem c226 (L:List Int) (hb:Sb L) (hl:(L.length:Int) ≤ 1048576):PC E 226 [.i (.sl (L.map encI))] [.i (.int .i64 (altV L)),.i (.bool (altO L))]:=by
 have ho:altO L = (okS L && decide (L.length % 2 = 0)):=rfl
 have hv:altV L = if altO L = true then alN L L.length else 0:=rfl
 have hV:=c235 L hb hl
 have em:Int.tmod (L.length:Int) 2 = ((L.length % 2:Nat):Int):=by rw [Int.tmod_eq_emod_of_nonneg (by omega)]; simp
 generalize okS L = o at *
 refine zP hE Proofs.Tryz.func226 Proofs.Tryz.ntmps226 rfl rfl ?_
 simp (maxSteps:=999999) (disch:=first|exact {}|omega|simp) [zS]
 refine zC (hV) ?_
 cases o
 ·rw [Bool.false_and] at ho
  simp (maxSteps:=999999) (disch:=first|exact {}|omega|simp) [zS,ho,hv]
 rw [Bool.true_and] at ho
 by_cases e:L.length % 2 = 0
 rotate_left
 ·have e1:L.length % 2 = 1:=by omega
  rw [e1] at em
  have ho':altO L = false:=by rw [ho]; simpa using e
  simp (maxSteps:=999999) (disch:=first|exact {}|omega|simp) [zS,em,hv,ho']
 rw [e] at em
 have ho':altO L = true:=by rw [ho]; simpa using e
 rw [if_pos ho'] at hv
 simp (maxSteps:=999999) (disch:=first|exact {}|omega|simp) [zS,em]
 refine XL.by hE (ι:={ q:Nat // q ≤ L.length ∧ q % 2 = 0 }) (fun q=>⟨[(0,.i (.sl (L.map encI))),(4,.i (.int .i64 (alN L q.1))),(5,.i (.int .i64 q.1))],[]⟩)
  (fun q=>L.length - q.1) ⟨0,by omega,rfl⟩ ⟨by simp [alN],by simp,by simp⟩ (by kernel_rfl) ?_
 rintro ⟨q,hq,hq2⟩
 have bd:=alN_bd hb q hq
 by_cases hlt:q < L.length
 ·have hst:=alN_two L q hq2
  have hlt2:q + 1 < L.length:=by omega
  have hg:=get_I hlt
  have hg2:=get_I hlt2
  have b1:=hb.at hlt
  have b2:=hb.at hlt2
  have hLl:(L.map encI).length = L.length:=by simp
  have f2:¬ ((q:Int) + 1 < 0):=by omega
  have f4:(q:Int) + 1 < L.length:=by omega
  generalize alN L q = s at *
  generalize nthI L (q + 1) = y at *
  generalize nthI L q = x at *
  generalize L.map encI = M at *
  simp (maxSteps:=999999) (disch:=first|exact {}|omega|simp) [zS,hlt,hlt2,hg,gI hg,hg2,gI hg2,hLl,f2,f4]
  (refine ⟨⟨q + 2,by omega,by omega⟩,by (simp; try omega), ?_⟩; constructor <;> (simp (maxSteps:=999999) (disch:=first|exact {}|omega|simp) [zS,hst]) <;> (try omega))
 ·obtain rfl:q = L.length:=by omega
  simp (maxSteps:=999999) (disch:=first|exact {}|omega|simp) [zS,hlt,hv,ho']
theorem c153 (L:List Int) (hb:Sb L) (hl:(L.length:Int) ≤ 1048576):PC E 153 [.i (.sl (L.map encI))] [.i (.bool (kawB L))]:=by
 have hk:=kawB_alt L
 have hA:=c226 L hb hl
 rw [hk]
 generalize altV L = v at *
 generalize altO L = o at *
 refine zP hE Proofs.Tryz.func153 Proofs.Tryz.ntmps153 rfl rfl ?_
 simp (maxSteps:=999999) (disch:=first|exact {}|omega|simp) [zS]
 refine zC (hA) ?_
 cases o <;> simp (maxSteps:=999999) (disch:=first|exact {}|omega|simp) [zS]
def sec0 (ps:List Pt) (cs:List Cr) (k:Int):List Int:=secL (dirL ps cs k) (dirL ps cs k).length
theorem sec0_b {ps:List Pt} {cs:List Cr} (hv:vB ps cs = true) (k:Int):Sb (sec0 ps cs k):=fun x hx=>by
 unfold sec0 secL at hx
 obtain ⟨i,hi,rfl⟩:=List.mem_map.1 hx
 exact sec1_bd (dirL_up hv k) (dirL_bd hv k) (List.mem_range.1 hi)
theorem sec0_len (ps:List Pt) (cs:List Cr) (k:Int):(sec0 ps cs k).length ≤ cs.length:=by
 unfold sec0; rw [secL_len]; exact dirL_len _ _ _
theorem secV_in {ps:List Pt} {cs:List Cr} {k j:Nat} (hb:isBr cs k = false):secV ps cs k j = sec0 ps cs k:=by
 unfold secV sec0; rw [hb]; rfl
def kwB (ps:List Pt) (cs:List Cr) (k:Int):Bool:=isBr cs k || kawB (sec0 ps cs k)
theorem c83 {ps:List Pt} {cs:List Cr} (hv:vB ps cs = true) {k:Nat} (hk:k < ps.length):PC E 83 [.agg (encPa ps cs),.i (.int .i64 k)] [.i (.bool (kwB ps cs k))]:=by
 obtain ⟨-,-,h40,h70⟩:=vB_facts hv
 have hd:kwB ps cs k = (isBr cs k || kawB (sec0 ps cs k)):=rfl
 have hB:=c118 ps cs k (by omega)
 have hl:=sec0_len ps cs k
 have hK:=c154 (sec0 ps cs k) (sec0_b hv k) (by omega)
 have hS:=fun hb:isBr cs k = false=>c85 (k:=k) (t:=0) (j:=0) hv hk (fun e=>by rw [hb] at e; simp at e)
 have hi:=fun hb:isBr cs k = false=>secV_in (ps:=ps) (j:=0) hb
 refine zP hE Proofs.Tryz.func83 Proofs.Tryz.ntmps83 rfl rfl ?_
 simp (maxSteps:=999999) (disch:=first|exact {}|omega|simp) [zS,encPa]
 refine zC (hB) ?_
 by_cases hb:isBr cs k = true
 ·rw [hb] at hd
  simp (maxSteps:=999999) (disch:=first|exact {}|omega|simp) [zS,hb,hd]
 ·have hb':isBr cs k = false:=by simpa using hb
  have hS':=hS hb'
  rw [hi hb'] at hS'
  rw [hb',Bool.false_or] at hd
  generalize sec0 ps cs k = V at *
  have tX:List.take V.length (V.map encI) = V.map encI:=List.take_of_length_le (by simp)
  simp (maxSteps:=999999) (disch:=first|exact {}|omega|simp) [zS,hb',encPa]
  refine zC (hS') ?_
  simp (maxSteps:=999999) (disch:=first|exact {}|omega|simp) [zS,tX]
  refine zC (hK) ?_
  simp (maxSteps:=999999) (disch:=first|exact {}|omega|simp) [zS,hd]
theorem c82 {ps:List Pt} {cs:List Cr} (hv:vB ps cs = true) {k:Nat} (hk:k < ps.length):PC E 82 [.i (.ptr (encPa ps cs)),.i (.sl ((arrI ps cs).map encI)),.i (.int .i64 k)] [.i (.bool (kwB ps cs k))]:=by
 obtain ⟨-,-,h40,h70⟩:=vB_facts hv
 have hd:kwB ps cs k = (isBr cs k || kawB (sec0 ps cs k)):=rfl
 have hAl:=arrS_le (ps:=ps) (cs:=cs) (by omega)
 have hSe:arrS ps cs = arrI ps cs:=by unfold arrS; rw [if_pos hv]
 have ha:=isBr_arr hv k hk
 rw [hSe] at hAl ha
 have hH:=h116 (arrI ps cs) (k:Int) (by omega)
 rw [← ha] at hH
 have hl:=sec0_len ps cs k
 have hK:=c153 (sec0 ps cs k) (sec0_b hv k) (by omega)
 have hS:=fun hb:isBr cs k = false=>c84 (k:=k) (t:=0) (j:=0) hv hk (fun e=>by rw [hb] at e; simp at e)
 have hi:=fun hb:isBr cs k = false=>secV_in (ps:=ps) (j:=0) hb
 clear ha hSe
 generalize (arrI ps cs).map encI = A at *
 refine zP hE Proofs.Tryz.func82 Proofs.Tryz.ntmps82 rfl rfl ?_
 simp (maxSteps:=999999) (disch:=first|exact {}|omega|simp) [zS]
 refine zC (hH) ?_
 by_cases hb:isBr cs k = true
 ·rw [hb] at hd
  simp (maxSteps:=999999) (disch:=first|exact {}|omega|simp) [zS,hb,hd]
 ·have hb':isBr cs k = false:=by simpa using hb
  have hS':=hS hb'
  rw [hi hb'] at hS'
  rw [hb',Bool.false_or] at hd
  generalize sec0 ps cs k = V at *
  have tX:List.take V.length (V.map encI) = V.map encI:=List.take_of_length_le (by simp)
  simp (maxSteps:=999999) (disch:=first|exact {}|omega|simp) [zS,hb']
  refine zC (hS') ?_
  simp (maxSteps:=999999) (disch:=first|exact {}|omega|simp) [zS,tX]
  refine zC (hK) ?_
  simp (maxSteps:=999999) (disch:=first|exact {}|omega|simp) [zS,hd]
noncomputable def kwS (ps:List Pt) (cs:List Cr) (k:Int):Bool:=okK ps cs k && kwB ps cs k
theorem c34 (ps:List Pt) (cs:List Cr) (k:Int) (h:(ps.length:Int) ≤ 1048576) (hc:(cs.length:Int) ≤ 1048576):PC E 34 [.agg (encPa ps cs),.i (.int .i64 k)] [.i (.bool (kwS ps cs k))]:=by
 have hd:kwS ps cs k = (okK ps cs k && kwB ps cs k):=rfl
 refine zP hE Proofs.Tryz.func34 Proofs.Tryz.ntmps34 rfl rfl ?_
 simp (maxSteps:=999999) (disch:=first|exact {}|omega|simp) [zS,encPa]
 refine zC (c56 ps cs k h hc) ?_
 by_cases hp:okK ps cs k = true
 ·have e0:=codeK_ok.2 hp
  rw [hp] at hd
  obtain ⟨hv,n,rfl,hn⟩:=okK_nat hp
  simp (maxSteps:=999999) (disch:=first|exact {}|omega|simp) [zS,e0,encPa]
  refine zC (c83 hv hn) ?_
  simp (maxSteps:=999999) (disch:=first|exact {}|omega|simp) [zS,hd]
 ·have e0:¬ codeK ps cs k = 0:=fun e=>hp (codeK_ok.1 e)
  have e1:okK ps cs k = false:=by simpa using hp
  rw [e1] at hd
  simp (maxSteps:=999999) (disch:=first|exact {}|omega|simp) [zS,e0,hd]
theorem c33 (ps:List Pt) (cs:List Cr) (k:Int) (h:(ps.length:Int) ≤ 1048576) (hc:(cs.length:Int) ≤ 1048576):PC E 33 [.agg (encPa ps cs),.i (.int .i64 k)] [.i (.bool (kwS ps cs k))]:=by
 have hd:kwS ps cs k = (okK ps cs k && kwB ps cs k):=rfl
 refine zP hE Proofs.Tryz.func33 Proofs.Tryz.ntmps33 rfl rfl ?_
 simp (maxSteps:=999999) (disch:=first|exact {}|omega|simp) [zS,encPa]
 refine zC (c54 ps cs k h hc) ?_
 by_cases hp:okK ps cs k = true
 ·have e0:=codeK_ok.2 hp
  rw [hp] at hd
  have e1:askR ps cs k = arrI ps cs:=by unfold askR; rw [if_pos hp]
  obtain ⟨hv,n,rfl,hn⟩:=okK_nat hp
  have tA:List.take (arrI ps cs).length ((arrI ps cs).map encI) = (arrI ps cs).map encI:=List.take_of_length_le (by simp)
  simp (maxSteps:=999999) (disch:=first|exact {}|omega|simp) [zS,e0,e1,encPa,tA]
  refine zC (c82 hv hn) ?_
  simp (maxSteps:=999999) (disch:=first|exact {}|omega|simp) [zS,hd]
 ·have e0:¬ codeK ps cs k = 0:=fun e=>hp (codeK_ok.1 e)
  have e1:okK ps cs k = false:=by simpa using hp
  rw [e1] at hd
  simp (maxSteps:=999999) (disch:=first|exact {}|omega|simp) [zS,e0,hd]
theorem c8 (ps:List Pt) (cs:List Cr) (k:Int) (h:ps.length ≤ maxLen) (hc:cs.length ≤ maxLen):PC E 8 [.agg (encPa ps cs),.i (.int .i64 k)] [.i (.bool true)]:=by
 have m:maxLen = 9223372036854775807:=by decide
 refine zP hE Proofs.Tryz.func8 Proofs.Tryz.ntmps8 rfl rfl ?_
 have hln:(encPa ps cs).length = 2:=rfl
 simp (maxSteps:=999999) (disch:=first|exact {}|omega|simp) [zS,hln]
 refine zC (c12 ps cs (by omega) (by omega)) ?_
 simp (maxSteps:=999999) (disch:=first|exact {}|omega|simp) [zS,hln]
 by_cases hle:(ps.length:Int) + cs.length ≤ 1048576
 rotate_left
 ·simp (maxSteps:=999999) (disch:=first|exact {}|omega|simp) [zS,hle,hln]
 have hA:=c14 ps cs (by omega) (by omega)
 have hS:=c33 ps cs k (by omega) (by omega)
 have hI:=c34 ps cs k (by omega) (by omega)
 have hQ:=c17 ps cs (by omega) (by omega)
 generalize encPa ps cs = e at *
 have tke:List.take 2 e = e:=List.take_of_length_le (by omega)
 have tkd:List.drop 2 e = []:=List.drop_of_length_le (by omega)
 generalize kwS ps cs k = v at *
 have e0:¬ ((1048576:Int) - ps.length - cs.length < 0):=by omega
 simp (maxSteps:=999999) (disch:=first|exact {}|omega|simp) [zS,hle,e0,hln,tke,tkd]
 refine zC (hA) ?_
 simp (maxSteps:=999999) (disch:=first|exact {}|omega|simp) [zS,hln,tke,tkd]
 refine zC (hS) ?_
 simp (maxSteps:=999999) (disch:=first|exact {}|omega|simp) [zS,hln,tke,tkd]
 refine zC (hA) ?_
 simp (maxSteps:=999999) (disch:=first|exact {}|omega|simp) [zS,hln,tke,tkd]
 refine zC (hI) ?_
 simp (maxSteps:=999999) (disch:=first|exact {}|omega|simp) [zS,hln,tke,tkd]
 refine zC (hA) ?_
 simp (maxSteps:=999999) (disch:=first|exact {}|omega|simp) [zS,hln,tke,tkd]
 refine zC (hQ) ?_
 simp (maxSteps:=999999) (disch:=first|exact {}|omega|simp) [zS,hln,tke,tkd]
end Go.Vai
