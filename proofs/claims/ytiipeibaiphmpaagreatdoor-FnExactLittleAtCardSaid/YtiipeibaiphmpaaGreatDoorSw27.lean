/- Texts of this claim: Zw27. -/
import Derived.Test.YtiipeibaiphmpaaGreatDoorSb64
import Derived.Test.YtiipeibaiphmpaaGreatDoorSb74
set_option linter.unusedVariables false
set_option linter.unusedSimpArgs false
set_option maxHeartbeats 8000000
set_option maxRecDepth 20000
namespace Go.Vai
open Pq
theorem tmod_nat (a b:Nat):Int.tmod (a:Int) (b:Int) = ((a % b:Nat):Int):=by rw [Int.tmod_eq_emod_of_nonneg (by omega)]; simp
@[simp] theorem flat_encRn (r:Rn):flatC (encRn r) = True:=by simp [flatC,encRn,IV.flat]
@[simp] theorem encRn_len (r:Rn):(encRn r).length = 3:=rfl
theorem c173 (L:List Int) (hl:(L.length:Int) ≤ 1048576):PC E 173 [.i (.sl (L.map encI))] [.own 3 ((runN L L.length).map encRn)]:=by
 have hMl:(L.map encI).length = L.length:=by simp
 refine zP hE Proofs.Tryz.func173 Proofs.Tryz.ntmps173 rfl rfl ?_
 simp (maxSteps:=999999) (disch:=first|exact {}|omega|simp) [zS]
 refine XL.by hE (ι:={ f:Nat // f ≤ L.length }) (fun f=>⟨[(0,.i (.sl (L.map encI))),(3,.i (.int .i64 L.length)),(4,.own 61 0 (runN L f.1).length),(10,.i (.sl (L.map encI))),(11,.i (.int .i64 L.length)),(12,.i (.int .i64 f.1))],[(61,⟨3,(runN L f.1).map encRn⟩)]⟩)
  (fun f=>L.length - f.1) ⟨0,Nat.zero_le _⟩ ⟨by simp [runN],by simp [runN],by simp⟩ (by kernel_rfl) ?_
 rintro ⟨f,hf⟩
 have hrl:=runN_len L f
 have tX:List.take (runN L f).length ((runN L f).map encRn) = (runN L f).map encRn:=List.take_of_length_le (by simp)
 by_cases hlt:f < L.length
 rotate_left
 ·obtain rfl:f = L.length:=by omega
  simp (maxSteps:=999999) (disch:=first|exact {}|omega|simp) [zS,hlt,tX]
 have hst:runN L (f + 1) = runN L f ++ if 0 < runS L f then [⟨f,runS L f,nthI L f⟩] else []:=rfl
 have hL0:¬ L.length = 0:=by omega
 have hrs:runS L f = if nthI L ((f + L.length - 1) % L.length) ≤ nthI L f then 0 else if nthI L f < nthI L ((f + eqN L f 1 (L.length - 1)) % L.length) then eqN L f 1 (L.length - 1) else 0:=rfl
 have gf:=get_I hlt
 have hm1:(f + L.length - 1) % L.length < L.length:=Nat.mod_lt _ (by omega)
 have g1:=get_I hm1
 have em:Int.tmod ((f:Int) + L.length - 1) (L.length:Int) = (((f + L.length - 1) % L.length:Nat):Int):=by
  rw [← tmod_nat]; congr 1; omega
 have hmr:((runN L f).map encRn).length = (runN L f).length:=by simp
 by_cases hle:nthI L ((f + L.length - 1) % L.length) ≤ nthI L f
 ·rw [if_pos hle] at hrs
  rw [hrs] at hst
  simp only [Nat.lt_irrefl,if_false,List.append_nil] at hst
  generalize nthI L ((f + L.length - 1) % L.length) = x at *
  generalize nthI L f = y at *
  generalize (f + L.length - 1) % L.length = u at *
  generalize L.map encI = M at *
  simp (maxSteps:=999999) (disch:=first|exact {}|omega|simp) [zS,hlt,gf,gI gf,g1,gI g1,em,hm1,hle,hMl,hL0]
  (refine ⟨⟨f + 1,by omega⟩,by (simp; try omega), ?_⟩; constructor <;> (simp (maxSteps:=999999) (disch:=first|exact {}|omega|simp) [zS,hst]) <;> (try omega))
 rw [if_neg hle] at hrs
 have hE0:=eqN_bd L f (L.length - 1) 1
 have hq:∀ c,∀ hc:1 ≤ c ∧ c ≤ L.length,∃ u:Nat,(f + c) % L.length = u ∧ u < L.length ∧ (L.map encI)[u]? = some [.int .i64 (nthI L u)] ∧ Int.tmod ((f:Int) + c) (L.length:Int) = (u:Int) ∧
   (c < L.length → eqN L f c (L.length - c) = if nthI L u = nthI L f then eqN L f (c + 1) (L.length - (c + 1)) else c):=fun c hc=>by
  have hu:(f + c) % L.length < L.length:=Nat.mod_lt _ (by omega)
  refine ⟨_,rfl,hu,get_I hu,by rw [← tmod_nat]; congr 1,fun hcl=>?_⟩
  obtain ⟨m,hm⟩:∃ m,L.length - c = m + 1:=⟨L.length - c - 1,by omega⟩
  rw [hm,show L.length - (c + 1) = m by omega]
  rfl
 have hend:eqN L f L.length (L.length - L.length) = L.length:=by rw [Nat.sub_self]; rfl
 have h0f:nthI L ((f + L.length) % L.length) = nthI L f:=by rw [Nat.add_mod_right,Nat.mod_eq_of_lt hlt]
 generalize hu0:(f + L.length - 1) % L.length = u0 at *
 generalize hM:L.map encI = M at *
 simp (maxSteps:=999999) (disch:=first|exact {}|omega|simp) [zS,hlt,gf,gI gf,g1,gI g1,em,hm1,hle,hMl,hL0]
 refine XL.by hE (ι:={ c:Nat // (1 ≤ c ∧ c ≤ L.length) ∧ eqN L f c (L.length - c) = eqN L f 1 (L.length - 1) }) (fun c=>⟨[(0,.i (.sl M)),(3,.i (.int .i64 L.length)),(4,.own 61 0 (runN L f).length),(5,.i (.int .i64 f)),(6,.i (.int .i64 (nthI L f))),(7,.i (.int .i64 c.1)),(10,.i (.sl M)),(11,.i (.int .i64 L.length)),(12,.i (.int .i64 f))],[(61,⟨3,(runN L f).map encRn⟩)]⟩)
  (fun c=>L.length - c.1) ⟨1,by omega,rfl⟩ ⟨by simp,by simp,by simp⟩ (by kernel_rfl) ?_
 rintro ⟨c,hc,he⟩
 obtain ⟨u,hu,hul,gu,eu,hs⟩:=hq c hc
 have rounds:c < L.length → nthI L u = nthI L f → True:=fun _ _=>trivial
 by_cases hgo:c < L.length ∧ nthI L u = nthI L f
 ·have hs':=hs hgo.1
  rw [if_pos hgo.2] at hs'
  have hcl:(c:Int) < L.length:=by omega
  have hgo2:=hgo.2
  have he2:=hs'.symm.trans he
  clear hq hs hs'
  generalize nthI L u = x at *
  generalize nthI L f = y at *
  simp (maxSteps:=999999) (disch:=first|exact {}|omega|simp) [zS,hgo.1,hcl,eu,hul,hL0,gu,gI gu,hgo2,hMl]
  (refine ⟨⟨c + 1,⟨by omega,by omega⟩,he2⟩,by (simp; try omega), ?_⟩; constructor <;> (simp (maxSteps:=999999) (disch:=first|exact {}|omega|simp) [zS]) <;> (try omega))
 have hce:eqN L f 1 (L.length - 1) = c:=by
  by_cases hcl:c < L.length
  ·have hs':=hs hcl
   rw [if_neg (fun e=>hgo ⟨hcl,e⟩)] at hs'
   exact he.symm.trans hs'
  ·have:c = L.length:=by omega
   rw [this] at he ⊢
   exact he.symm.trans hend
 rw [hce,hu] at hrs
 clear hq hs hend hE0
 by_cases hgt:nthI L f < nthI L u
 ·rw [if_pos hgt] at hrs
  rw [hrs,if_pos (by omega)] at hst
  have hst2:(runN L (f + 1)).map encRn = (runN L f).map encRn ++ [[.int .i64 f,.int .i64 c,.int .i64 (nthI L f)]]:=by rw [hst,List.map_append]; rfl
  have hstl:(runN L (f + 1)).length = (runN L f).length + 1:=by rw [hst]; simp
  have hne:¬ nthI L u = nthI L f:=by omega
  by_cases hcl:c < L.length
  ·have hcl':(c:Int) < L.length:=by omega
   generalize hA:(runN L f).map encRn = A at *
   generalize nthI L u = x at *
   generalize nthI L f = y at *
   simp (maxSteps:=999999) (disch:=first|exact {}|omega|simp) [zS,hcl,hcl',eu,hul,hL0,gu,gI gu,hne,hgt,hMl,tX,hmr]
   (refine ⟨⟨f + 1,by omega⟩,by (simp; try omega), ?_⟩; constructor <;> (simp (maxSteps:=999999) (disch:=first|exact {}|omega|simp) [zS,hst2,hstl,tX,hmr]) <;> (try omega))
  ·have:c = L.length:=by omega
   rw [this,Nat.add_mod_right,Nat.mod_eq_of_lt hlt] at hu
   rw [← hu] at hgt; omega
 ·rw [if_neg hgt] at hrs
  rw [hrs] at hst
  simp only [Nat.lt_irrefl,if_false,List.append_nil] at hst
  by_cases hcl:c < L.length
  ·have hcl':(c:Int) < L.length:=by omega
   have hne:¬ nthI L u = nthI L f:=fun e=>hgo ⟨hcl,e⟩
   generalize hA:(runN L f).map encRn = A at *
   generalize nthI L u = x at *
   generalize nthI L f = y at *
   simp (maxSteps:=999999) (disch:=first|exact {}|omega|simp) [zS,hcl,hcl',eu,hul,hL0,gu,gI gu,hne,hgt,hMl]
   (refine ⟨⟨f + 1,by omega⟩,by (simp; try omega), ?_⟩; constructor <;> (simp (maxSteps:=999999) (disch:=first|exact {}|omega|simp) [zS,hst,hA]) <;> (try omega))
  ·have hcl':¬ (c:Int) < L.length:=by omega
   generalize hA:(runN L f).map encRn = A at *
   generalize nthI L u = x at *
   generalize nthI L f = y at *
   simp (maxSteps:=999999) (disch:=first|exact {}|omega|simp) [zS,hcl,hcl',eu,hul,hL0,gu,gI gu,hgt,hMl]
   (refine ⟨⟨f + 1,by omega⟩,by (simp; try omega), ?_⟩; constructor <;> (simp (maxSteps:=999999) (disch:=first|exact {}|omega|simp) [zS,hst,hA]) <;> (try omega))
theorem c236 (L:List Int) (f:Nat) (hf:f < L.length) (hl:(L.length:Int) ≤ 1048576):PC E 236 [.i (.sl (L.map encI)),.i (.int .i64 f)] [.i (.int .i64 (runS L f))]:=by
 have hMl:(L.map encI).length = L.length:=by simp
 have hL0:¬ L.length = 0:=by omega
 have hrs:runS L f = if nthI L ((f + L.length - 1) % L.length) ≤ nthI L f then 0 else if nthI L f < nthI L ((f + eqN L f 1 (L.length - 1)) % L.length) then eqN L f 1 (L.length - 1) else 0:=rfl
 have gf:=get_I hf
 have hm1:(f + L.length - 1) % L.length < L.length:=Nat.mod_lt _ (by omega)
 have g1:=get_I hm1
 have em:Int.tmod ((f:Int) + L.length - 1) (L.length:Int) = (((f + L.length - 1) % L.length:Nat):Int):=by
  rw [← tmod_nat]; congr 1; omega
 refine zP hE Proofs.Tryz.func236 Proofs.Tryz.ntmps236 rfl rfl ?_
 by_cases hle:nthI L ((f + L.length - 1) % L.length) ≤ nthI L f
 ·rw [if_pos hle] at hrs
  generalize nthI L ((f + L.length - 1) % L.length) = x at *
  generalize nthI L f = y at *
  generalize (f + L.length - 1) % L.length = u at *
  generalize L.map encI = M at *
  simp (maxSteps:=999999) (disch:=first|exact {}|omega|simp) [zS,hf,gf,gI gf,g1,gI g1,em,hm1,hle,hMl,hL0,hrs]
 rw [if_neg hle] at hrs
 have hlast:∀ c,c + 1 = L.length → ¬ nthI L ((f + c) % L.length) = nthI L f:=fun c hc e=>by
  rw [show f + L.length - 1 = f + c by omega] at hle; omega
 have hq:∀ c,∀ hc:1 ≤ c ∧ c < L.length,∃ u:Nat,(f + c) % L.length = u ∧ u < L.length ∧ (L.map encI)[u]? = some [.int .i64 (nthI L u)] ∧ Int.tmod ((f:Int) + c) (L.length:Int) = (u:Int) ∧
   eqN L f c (L.length - c) = if nthI L u = nthI L f then eqN L f (c + 1) (L.length - (c + 1)) else c:=fun c hc=>by
  have hu:(f + c) % L.length < L.length:=Nat.mod_lt _ (by omega)
  refine ⟨_,rfl,hu,get_I hu,by rw [← tmod_nat]; congr 1, ?_⟩
  obtain ⟨m,hm⟩:∃ m,L.length - c = m + 1:=⟨L.length - c - 1,by omega⟩
  rw [hm,show L.length - (c + 1) = m by omega]
  rfl
 have h2:2 ≤ L.length:=by
  refine Classical.byContradiction fun hno=>?_
  have e1:L.length = 1:=by omega
  rw [e1,Nat.mod_one,show f = 0 by omega] at hle
  omega
 generalize hu0:(f + L.length - 1) % L.length = u0 at *
 generalize hM:L.map encI = M at *
 simp (maxSteps:=999999) (disch:=first|exact {}|omega|simp) [zS,hf,gf,gI gf,g1,gI g1,em,hm1,hle,hMl,hL0]
 refine XL.by hE (ι:={ c:Nat // (1 ≤ c ∧ c < L.length) ∧ eqN L f c (L.length - c) = eqN L f 1 (L.length - 1) }) (fun c=>⟨[(0,.i (.sl M)),(1,.i (.int .i64 f)),(5,.i (.int .i64 L.length)),(6,.i (.int .i64 c.1))],[]⟩)
  (fun c=>L.length - c.1) ⟨1,by omega,rfl⟩ ⟨by simp,by simp,by simp⟩ (by kernel_rfl) ?_
 rintro ⟨c,hc,he⟩
 obtain ⟨u,hu,hul,gu,eu,hs⟩:=hq c hc
 by_cases hgo:nthI L u = nthI L f
 ·rw [if_pos hgo] at hs
  have hc1:c + 1 < L.length:=by
   refine Classical.byContradiction fun hno=>?_
   exact hlast c (by omega) (hu ▸ hgo)
  have he2:=hs.symm.trans he
  clear hq hs hlast
  generalize nthI L u = x at *
  generalize nthI L f = y at *
  simp (maxSteps:=999999) (disch:=first|exact {}|omega|simp) [zS,eu,hul,hL0,gu,gI gu,gf,gI gf,hf,hgo,hMl]
  (refine ⟨⟨c + 1,⟨by omega,by omega⟩,he2⟩,by (simp; try omega), ?_⟩; constructor <;> (simp (maxSteps:=999999) (disch:=first|exact {}|omega|simp) [zS]) <;> (try omega))
 rw [if_neg hgo] at hs
 have hce:eqN L f 1 (L.length - 1) = c:=he.symm.trans hs
 rw [hce,hu] at hrs
 clear hq hs hlast
 by_cases hgt:nthI L f < nthI L u
 ·rw [if_pos hgt] at hrs
  have hng:¬ nthI L u < nthI L f:=by omega
  generalize nthI L u = x at *
  generalize nthI L f = y at *
  simp (maxSteps:=999999) (disch:=first|exact {}|omega|simp) [zS,eu,hul,hL0,gu,gI gu,gf,gI gf,hf,hgo,hng,hMl,hrs]
 ·rw [if_neg hgt] at hrs
  have hng:nthI L u < nthI L f:=by omega
  generalize nthI L u = x at *
  generalize nthI L f = y at *
  simp (maxSteps:=999999) (disch:=first|exact {}|omega|simp) [zS,eu,hul,hL0,gu,gI gu,gf,gI gf,hf,hgo,hng,hMl,hrs]
def runO (L:List Int):List Rn:=if okS L = true then runN L L.length else []
theorem c170 (L:List Int) (hb:Sb L) (hl:(L.length:Int) ≤ 1048576):PC E 170 [.i (.sl (L.map encI))] [.own 3 ((runO L).map encRn)]:=by
 have hd:runO L = if okS L = true then runN L L.length else []:=rfl
 have hMl:(L.map encI).length = L.length:=by simp
 refine zP hE Proofs.Tryz.func170 Proofs.Tryz.ntmps170 rfl rfl ?_
 simp (maxSteps:=999999) (disch:=first|exact {}|omega|simp) [zS]
 refine zC (c235 L hb hl) ?_
 by_cases ho:okS L = true
 rotate_left
 ·have ho':okS L = false:=by simpa using ho
  rw [if_neg ho] at hd
  simp (maxSteps:=999999) (disch:=first|exact {}|omega|simp) [zS,ho',hd]
 rw [if_pos ho] at hd
 rw [hd]
 simp (maxSteps:=999999) (disch:=first|exact {}|omega|simp) [zS,ho]
 refine XL.by hE (ι:={ f:Nat // f ≤ L.length }) (fun f=>⟨[(0,.i (.sl (L.map encI))),(3,.own 30 0 (runN L f.1).length),(4,.i (.int .i64 f.1))],[(30,⟨3,(runN L f.1).map encRn⟩)]⟩)
  (fun f=>L.length - f.1) ⟨0,Nat.zero_le _⟩ ⟨by simp [runN],by simp [runN],by simp⟩ (by kernel_rfl) ?_
 rintro ⟨f,hf⟩
 have hrl:=runN_len L f
 have tX:List.take (runN L f).length ((runN L f).map encRn) = (runN L f).map encRn:=List.take_of_length_le (by simp)
 by_cases hlt:f < L.length
 rotate_left
 ·obtain rfl:f = L.length:=by omega
  simp (maxSteps:=999999) (disch:=first|exact {}|omega|simp) [zS,hlt,tX]
 have hst:runN L (f + 1) = runN L f ++ if 0 < runS L f then [⟨f,runS L f,nthI L f⟩] else []:=rfl
 have gf:=get_I hlt
 have hR:=c236 L f hlt hl
 have hmr:((runN L f).map encRn).length = (runN L f).length:=by simp
 generalize runS L f = s at *
 by_cases hs:0 < s
 ·rw [if_pos hs] at hst
  have hst2:(runN L (f + 1)).map encRn = (runN L f).map encRn ++ [[.int .i64 f,.int .i64 s,.int .i64 (nthI L f)]]:=by rw [hst,List.map_append]; rfl
  have hstl:(runN L (f + 1)).length = (runN L f).length + 1:=by rw [hst]; simp
  have hs':(0:Int) < s:=by omega
  generalize hA:(runN L f).map encRn = A at *
  generalize nthI L f = y at *
  generalize L.map encI = M at *
  simp (maxSteps:=999999) (disch:=first|exact {}|omega|simp) [zS,hlt]
  refine zC (hR) ?_
  simp (maxSteps:=999999) (disch:=first|exact {}|omega|simp) [zS,hs,hs',gf,gI gf,hlt,hMl,tX,hmr]
  (refine ⟨⟨f + 1,by omega⟩,by (simp; try omega), ?_⟩; constructor <;> (simp (maxSteps:=999999) (disch:=first|exact {}|omega|simp) [zS,hst2,hstl,tX,hmr]) <;> (try omega))
 ·rw [if_neg hs,List.append_nil] at hst
  have hs':¬ (0:Int) < s:=by omega
  generalize hA:(runN L f).map encRn = A at *
  generalize L.map encI = M at *
  simp (maxSteps:=999999) (disch:=first|exact {}|omega|simp) [zS,hlt]
  refine zC (hR) ?_
  simp (maxSteps:=999999) (disch:=first|exact {}|omega|simp) [zS,hs,hs']
  (refine ⟨⟨f + 1,by omega⟩,by (simp; try omega), ?_⟩; constructor <;> (simp (maxSteps:=999999) (disch:=first|exact {}|omega|simp) [zS,hst,hA]) <;> (try omega))
theorem c239 (f c n:Nat) (s:Int) (hf:f < n) (hc:c < n) (hn:(n:Int) ≤ 1048576):PC E 239 [.agg (encRn ⟨f,c,s⟩),.i (.int .i64 n)] [.own 1 ((innI f (c + 1) n).map encI)]:=by
 refine zP hE Proofs.Tryz.func239 Proofs.Tryz.ntmps239 rfl rfl ?_
 simp (maxSteps:=999999) (disch:=first|exact {}|omega|simp) [zS,encRn]
 refine XL.by hE (ι:={ q:Nat // q ≤ c + 1 }) (fun q=>⟨[(1,.i (.int .i64 n)),(2,.ptr 2 0 0),(5,.own 21 0 q.1),(9,.i (.int .i64 ((c:Int) + 1))),(10,.i (.int .i64 q.1))],[(2,⟨3,[[.int .i64 f,.int .i64 c,.int .i64 s]]⟩),(21,⟨1,(innI f q.1 n).map encI⟩)]⟩)
  (fun q=>c + 1 - q.1) ⟨0,Nat.zero_le _⟩ ⟨by simp,by simp [innI],by simp⟩ (by kernel_rfl) ?_
 rintro ⟨q,hq⟩
 have hll:((innI f q n).map encI).length = q:=by simp
 have tX:List.take q ((innI f q n).map encI) = (innI f q n).map encI:=List.take_of_length_le (by omega)
 by_cases hlt:q < c + 1
 ·have hst:(innI f (q + 1) n).map encI = (innI f q n).map encI ++ [[.int .i64 (((f + q) % n:Nat):Int)]]:=by rw [innI_snoc,List.map_append]; rfl
  have em:Int.tmod ((f:Int) + q) (n:Int) = (((f + q) % n:Nat):Int):=by rw [← tmod_nat]; congr 1
  have hlt':(q:Int) < (c:Int) + 1:=by omega
  have hu:(f + q) % n < n:=Nat.mod_lt _ (by omega)
  have hn0:¬ (n:Int) = 0:=by omega
  have hn1:¬ n = 0:=by omega
  generalize (f + q) % n = u at *
  generalize (innI f q n).map encI = A at *
  simp (maxSteps:=999999) (disch:=first|exact {}|omega|simp) [zS,hlt,hlt',em,tX,hll,hn0,hn1]
  (refine ⟨⟨q + 1,by omega⟩,by (simp; try omega), ?_⟩; constructor <;> (simp (maxSteps:=999999) (disch:=first|exact {}|omega|simp) [zS,hst,tX,hll]) <;> (try omega))
 ·have e:q = c + 1:=by omega
  have hlt':¬ (q:Int) < (c:Int) + 1:=by omega
  simp (maxSteps:=999999) (disch:=first|exact {}|omega|simp) [zS,hlt,hlt',tX]
  rw [e]
theorem c238 (K I:List Int) (hI:∀ i ∈ I,0 ≤ i ∧ i < K.length) (hk:(K.length:Int) ≤ 1048576) (hi:(I.length:Int) ≤ 1048576):PC E 238 [.i (.sl (K.map encI)),.i (.sl (I.map encI))] [.own 1 ((I.map fun i=>nthI K i.toNat).map encI)]:=by
 have hKl:(K.map encI).length = K.length:=by simp
 refine zP hE Proofs.Tryz.func238 Proofs.Tryz.ntmps238 rfl rfl ?_
 simp (maxSteps:=999999) (disch:=first|exact {}|omega|simp) [zS]
 refine XL.by hE (ι:={ q:Nat // q ≤ I.length }) (fun q=>⟨[(0,.i (.sl (K.map encI))),(5,.own 20 0 q.1),(8,.i (.sl (I.map encI))),(9,.i (.int .i64 I.length)),(10,.i (.int .i64 q.1))],[(20,⟨1,(mkN (fun i=>nthI K i.toNat) I q.1).map encI⟩)]⟩)
  (fun q=>I.length - q.1) ⟨0,Nat.zero_le _⟩ ⟨by simp,by simp [mkN_zero],by simp⟩ (by kernel_rfl) ?_
 rintro ⟨q,hq⟩
 have hll:((mkN (fun i=>nthI K i.toNat) I q).map encI).length = q:=mkN_len hq
 have tX:List.take q ((mkN (fun i=>nthI K i.toNat) I q).map encI) = (mkN (fun i=>nthI K i.toNat) I q).map encI:=List.take_of_length_le (by omega)
 by_cases hlt:q < I.length
 ·have hm:=hI _ (List.getElem_mem hlt)
  have hg:=get_I hlt
  rw [← nthI_eq hlt] at hm
  have hgo:I[q]? = some (nthI I q):=by rw [List.getElem?_eq_getElem hlt,nthI_eq hlt]
  have hst:=map_take_snoc (f:=fun i=>nthI K i.toNat) hgo
  have hst2:(mkN (fun i=>nthI K i.toNat) I (q + 1)).map encI = (mkN (fun i=>nthI K i.toNat) I q).map encI ++ [[.int .i64 (nthI K (nthI I q).toNat)]]:=by unfold mkN; rw [hst,List.map_append]; rfl
  have hx:(nthI I q).toNat < K.length:=by omega
  have hgk:=get_I hx
  have hn:¬ nthI I q < 0:=by omega
  clear hst hgo
  generalize (mkN (fun i=>nthI K i.toNat) I q).map encI = A at *
  generalize nthI K (nthI I q).toNat = y at *
  generalize nthI I q = x at *
  generalize K.map encI = M at *
  simp (maxSteps:=999999) (disch:=first|exact {}|omega|simp) [zS,hlt,hg,gI hg,hgk,gI hgk,hx,hn,hKl,tX,hll]
  (refine ⟨⟨q + 1,by omega⟩,by (simp; try omega), ?_⟩; constructor <;> (simp (maxSteps:=999999) (disch:=first|exact {}|omega|simp) [zS,hst2,tX,hll]) <;> (try omega))
 ·have e:q = I.length:=by omega
  subst e
  have hF:=mkN_all (fun i=>nthI K i.toNat) I
  rw [hF] at tX
  simp (maxSteps:=999999) (disch:=first|exact {}|omega|simp) [zS,hlt,hF,tX]
theorem c240 (ls:List Int):PC E 240 [.i (.sl (ls.map encI))] [.i (.int .i64 ls.length)]:=by
 refine zP hE Proofs.Tryz.func240 Proofs.Tryz.ntmps240 rfl rfl ?_
 simp (maxSteps:=999999) (disch:=first|exact {}|omega|simp) [zS]
theorem c175 (K:List Int) (f c:Nat) (s:Int) (hf:f < K.length) (hc:c < K.length) (hk:(K.length:Int) ≤ 1048576):PC E 175 [.agg (encRn ⟨f,c,s⟩),.i (.sl (K.map encI))] [.i (.bool (balB K ⟨f,c,s⟩))]:=by
 have hd:balB K ⟨f,c,s⟩ = decide (excN (runK K ⟨f,c,s⟩) = ((c:Int) + 1) % 2):=rfl
 have hr:(innI f (c + 1) K.length).map (fun i=>nthI K i.toNat) = runK K ⟨f,c,s⟩:=inn_run hf (by omega)
 have hin:∀ i ∈ innI f (c + 1) K.length,0 ≤ i ∧ i < K.length:=fun i hi=>by
  unfold innI at hi
  obtain ⟨j,-,rfl⟩:=List.mem_map.1 hi
  have:=Nat.mod_lt (f + j) (show K.length > 0 by omega)
  omega
 have h1:=c239 f c K.length s hf hc hk
 have h2:=c238 K (innI f (c + 1) K.length) hin hk (by simp; omega)
 rw [hr] at h2
 have hrl:(runK K ⟨f,c,s⟩).length ≤ c + 1:=by unfold runK; simp; omega
 have h3:=c120 (runK K ⟨f,c,s⟩) (by omega)
 have hil:=innI_len f (c + 1) K.length
 have em:Int.tmod ((c:Int) + 1) 2 = ((c:Int) + 1) % 2:=Int.tmod_eq_emod_of_nonneg (by omega)
 rw [hd]
 clear hin hr hd
 generalize innI f (c + 1) K.length = I at *
 generalize runK K ⟨f,c,s⟩ = R at *
 generalize excN R = x at *
 have tI:List.take (c + 1) (I.map encI) = I.map encI:=List.take_of_length_le (by simp; omega)
 have tR:List.take R.length (R.map encI) = R.map encI:=List.take_of_length_le (by simp)
 refine zP hE Proofs.Tryz.func175 Proofs.Tryz.ntmps175 rfl rfl ?_
 simp (maxSteps:=999999) (disch:=first|exact {}|omega|simp) [zS,encRn]
 refine zC (c240 K) ?_
 simp (maxSteps:=999999) (disch:=first|exact {}|omega|simp) [zS]
 refine zC (h1) ?_
 simp (maxSteps:=999999) (disch:=first|exact {}|omega|simp) [zS,hil,tI]
 refine zC (h2) ?_
 simp (maxSteps:=999999) (disch:=first|exact {}|omega|simp) [zS,tR]
 refine zC (h3) ?_
 simp (maxSteps:=999999) (disch:=first|exact {}|omega|simp) [zS,em]
theorem c174 (K:List Int) (f c:Nat) (s:Int) (hf:f < K.length) (hc:c < K.length) (hk:(K.length:Int) ≤ 1048576):PC E 174 [.agg (encRn ⟨f,c,s⟩),.i (.ptr [.sl (K.map encI)])] [.i (.bool (!balB K ⟨f,c,s⟩))]:=by
 have h:=c175 K f c s hf hc hk
 generalize balB K ⟨f,c,s⟩ = b at *
 refine zP hE Proofs.Tryz.func174 Proofs.Tryz.ntmps174 rfl rfl ?_
 simp (maxSteps:=999999) (disch:=first|exact {}|omega|simp) [zS,encRn]
 refine zC (h) ?_
 simp (maxSteps:=999999) (disch:=first|exact {}|omega|simp) [zS]
theorem c237 (xs:List Rn) (g:FuncId) (caps:List IV) (p:Rn → Bool) (hp:∀ x ∈ xs,PC E g (.agg (encRn x) :: caps.map .i) [.i (.bool (p x))]) (h:(xs.length:Int) ≤ 1048576) :
  PC E 237 [.i (.sl (xs.map encRn)),.i (.fn g caps)] [.i (.int .i64 (fidx p xs))]:=by
 refine zP hE Proofs.Tryz.func237 Proofs.Tryz.ntmps237 rfl rfl ?_
 simp (maxSteps:=999999) (disch:=first|exact {}|omega|simp) [zS]
 refine XL.by hE (ι:={ k:Nat // k ≤ xs.length ∧ ∀ (j:Nat) (hj:j < xs.length),j < k → p xs[j] = false }) (fun k=>⟨[(0,.i (.sl (xs.map encRn))),(1,.i (.fn g caps)),(7,.i (.int .i64 xs.length)),(8,.i (.int .i64 k.1))],[]⟩)
  (fun k=>xs.length - k.1) ⟨0,Nat.zero_le _,by simp⟩ ⟨by simp,by simp,by simp⟩ (by kernel_rfl) ?_
 rintro ⟨k,hk,hno⟩
 by_cases hlt:k < xs.length
 ·simp (maxSteps:=999999) (disch:=first|exact {}|omega|simp) [zS,hlt]
  refine zC (hp xs[k] (List.getElem_mem _)) ?_
  simp (maxSteps:=999999) (disch:=first|exact {}|omega|simp) [zS,hlt]
  (first | refine Gd.dec (fun h4=>?_) (fun h4=>?_) | refine Gd.intro (fun h4=>?_) (fun h4=>?_)) <;> simp (maxSteps:=999999) (disch:=first|exact {}|omega|simp) [zS,h4]
  ·simp [fidx_at hlt hno h4]
  ·(refine ⟨⟨k + 1,by omega,step_no hno hlt h4⟩,by (simp; try omega), ?_⟩; constructor <;> (simp (maxSteps:=999999) (disch:=first|exact {}|omega|simp) [zS]) <;> (try omega))
 ·obtain rfl:k = xs.length:=by omega
  simp (maxSteps:=999999) (disch:=first|exact {}|omega|simp) [zS,fidx_none fun j hj=>hno j hj hj]
theorem c172 (xs:List Rn) (g:FuncId) (caps:List IV) (p:Rn → Bool) (hp:∀ x ∈ xs,PC E g (.agg (encRn x) :: caps.map .i) [.i (.bool (p x))]) (h:(xs.length:Int) ≤ 1048576) :
  PC E 172 [.i (.sl (xs.map encRn)),.i (.fn g caps)] [.i (.bool (xs.any p))]:=by
 refine zP hE Proofs.Tryz.func172 Proofs.Tryz.ntmps172 rfl rfl ?_
 simp (maxSteps:=999999) (disch:=first|exact {}|omega|simp) [zS]
 refine zC (c237 xs g caps p hp h) ?_
 simp (maxSteps:=999999) (disch:=first|exact {}|omega|simp) [zS,fidx_any]
def ltB (ps:List Pt) (cs:List Cr) (k:Int):Bool:=isBr cs k || (!((kinL ps cs k).any fun x=>decide (x = 4)) && !((runN (sec0 ps cs k) (sec0 ps cs k).length).any fun r=>!balB (kinL ps cs k) r))
theorem sec0_kin (ps:List Pt) (cs:List Cr) (k:Int):(sec0 ps cs k).length = (kinL ps cs k).length:=by
 unfold sec0; rw [secL_len,kinL_len]
theorem runO_sec {ps:List Pt} {cs:List Cr} (hv:vB ps cs = true) (k:Int):runO (sec0 ps cs k) = runN (sec0 ps cs k) (sec0 ps cs k).length:=by
 unfold runO
 have h:=okS_sec (dirL_up hv k) (dirL_bd hv k)
 have h':okS (sec0 ps cs k) = decide (0 < (dirL ps cs k).length):=h
 rw [h']
 by_cases h0:0 < (dirL ps cs k).length
 ·simp [h0]
 ·have e:(sec0 ps cs k).length = 0:=by unfold sec0; rw [secL_len]; omega
  rw [e]
  simp [h0,runN]
theorem c95 {ps:List Pt} {cs:List Cr} (hv:vB ps cs = true) {k:Nat} (hk:k < ps.length):PC E 95 [.agg (encPa ps cs),.i (.int .i64 k)] [.i (.bool (ltB ps cs k))]:=by
 obtain ⟨-,-,h40,h70⟩:=vB_facts hv
 have hd:ltB ps cs k = (isBr cs k || (!((kinL ps cs k).any fun x=>decide (x = 4)) && !((runN (sec0 ps cs k) (sec0 ps cs k).length).any fun r=>!balB (kinL ps cs k) r))):=rfl
 have hB:=c118 ps cs k (by omega)
 have hl:=sec0_len ps cs k
 have hsk:=sec0_kin ps cs k
 have hKd:=(c59 hv hk).imm
 have hS:=fun hb:isBr cs k = false=>c85 (k:=k) (t:=0) (j:=0) hv hk (fun e=>by rw [hb] at e; simp at e)
 have hi:=fun hb:isBr cs k = false=>secV_in (ps:=ps) (j:=0) hb
 by_cases hb:isBr cs k = true
 ·rw [hb] at hd
  refine zP hE Proofs.Tryz.func95 Proofs.Tryz.ntmps95 rfl rfl ?_
  simp (maxSteps:=999999) (disch:=first|exact {}|omega|simp) [zS,encPa]
  refine zC (hB) ?_
  simp (maxSteps:=999999) (disch:=first|exact {}|omega|simp) [zS,hb,hd]
 have hb':isBr cs k = false:=by simpa using hb
 have hS':=hS hb'
 rw [hi hb'] at hS'
 rw [hb',Bool.false_or] at hd
 rw [hb'] at hB
 clear hS hi
 have hrun:=runN_len (sec0 ps cs k) (sec0 ps cs k).length
 have hL:=c173 (sec0 ps cs k) (by omega)
 have hmem:=fun r (hr:r ∈ runN (sec0 ps cs k) (sec0 ps cs k).length)=>runN_mem (Nat.le_refl _) hr
 generalize sec0 ps cs k = V at *
 generalize kinL ps cs k = K at *
 generalize runN V V.length = R at *
 have hC:=c119 K 4 (by omega)
 have hF:=c172 R 174 [.ptr [.sl (K.map encI)]] (fun r=>!balB K r) (fun r hr=>by
  obtain ⟨f,c,h1,h2,h3,h4,h5⟩:=hmem r hr
  obtain ⟨rf,rc,rs⟩:=r
  simp only at h2 h3
  subst h2 h3
  exact c174 K f c rs (by omega) (by omega) (by omega)) (by omega)
 generalize (K.any fun x=>decide (x = 4)) = o at *
 generalize (R.any fun r=>!balB K r) = z at *
 have tV:List.take V.length (V.map encI) = V.map encI:=List.take_of_length_le (by simp)
 have tK:List.take K.length (K.map encI) = K.map encI:=List.take_of_length_le (by simp)
 have tR:List.take R.length (R.map encRn) = R.map encRn:=List.take_of_length_le (by simp)
 refine zP hE Proofs.Tryz.func95 Proofs.Tryz.ntmps95 rfl rfl ?_
 simp (maxSteps:=999999) (disch:=first|exact {}|omega|simp) [zS,encPa]
 refine zC (hB) ?_
 simp (maxSteps:=999999) (disch:=first|exact {}|omega|simp) [zS,encPa]
 refine zC (hKd) ?_
 simp (maxSteps:=999999) (disch:=first|exact {}|omega|simp) [zS,tK]
 refine zC (hC) ?_
 cases o
 ·simp (maxSteps:=999999) (disch:=first|exact {}|omega|simp) [zS,encPa]
  refine zC (hS') ?_
  simp (maxSteps:=999999) (disch:=first|exact {}|omega|simp) [zS,tV]
  refine zC (hL) ?_
  simp (maxSteps:=999999) (disch:=first|exact {}|omega|simp) [zS,tR,tK]
  refine zC (hF) ?_
  simp (maxSteps:=999999) (disch:=first|exact {}|omega|simp) [zS,hd]
 ·simp (maxSteps:=999999) (disch:=first|exact {}|omega|simp) [zS,hd]
theorem c171 (l:List Int) (k:Nat) (hk:k ≤ l.length) (hl:(l.length:Int) ≤ 1048576):PC E 171 [.i (.sl (l.map encI)),.i (.int .i64 k)] [.own 1 ((rotL l k).map encI)]:=by
 have ht:List.take (l.length - k) (List.drop k (l.map encI)) = (l.drop k).map encI:=by rw [← List.map_drop]; exact List.take_of_length_le (by simp)
 have ht2:List.take k (l.map encI) = (l.take k).map encI:=by simp
 have how:=c156' (l.drop k) (by simp; omega)
 have hml:(l.map encI).length = l.length:=by simp
 have hm0:=mem_encI l
 have hm1:=mem_encI (l.drop k)
 have hm2:=mem_encI (l.take k)
 have hdl:(l.drop k).length = l.length - k:=by simp
 have hdl2:((l.drop k).map encI).length = l.length - k:=by simp
 have htl2:((l.take k).map encI).length = k:=by simp; omega
 have hst:(rotL l k).map encI = (l.drop k).map encI ++ (l.take k).map encI:=by unfold rotL; rw [List.map_append]
 rw [hst]
 generalize (l.take k).map encI = B at *
 generalize l.drop k = D at *
 generalize l.map encI = M at *
 have tD:List.take (l.length - k) (D.map encI) = D.map encI:=List.take_of_length_le (by omega)
 refine zP hE Proofs.Tryz.func171 Proofs.Tryz.ntmps171 rfl rfl ?_
 simp (maxSteps:=999999) (disch:=first|exact {}|omega|simp) [zS,hk,ht,ht2,hml,hm0,hm1,hm2]
 refine zC (how) ?_
 simp (maxSteps:=999999) (disch:=first|exact {}|omega|simp) [zS,hk,ht2,hml,hdl,hdl2,htl2,tD,hm0,hm1,hm2]
 exact (List.take_of_length_le (by simp; omega)).symm
theorem c94 {ps:List Pt} {cs:List Cr} (hv:vB ps cs = true) {k:Nat} (hk:k < ps.length):PC E 94 [.i (.ptr (encPa ps cs)),.i (.sl ((arrI ps cs).map encI)),.i (.int .i64 k)] [.i (.bool (ltB ps cs k))]:=by
 obtain ⟨-,-,h40,h70⟩:=vB_facts hv
 have hd:ltB ps cs k = (isBr cs k || (!((kinL ps cs k).any fun x=>decide (x = 4)) && !((runN (sec0 ps cs k) (sec0 ps cs k).length).any fun r=>!balB (kinL ps cs k) r))):=rfl
 have hAl:=arrS_le (ps:=ps) (cs:=cs) (by omega)
 have hSe:arrS ps cs = arrI ps cs:=by unfold arrS; rw [if_pos hv]
 have ha:=isBr_arr hv k hk
 rw [hSe] at hAl ha
 have hH:=h116 (arrI ps cs) (k:Int) (by omega)
 rw [← ha] at hH
 have hl:=sec0_len ps cs k
 have hsk:=sec0_kin ps cs k
 have hKd:=c58 hv hk
 have h2:=kin_two (ps:=ps) (cs:=cs) hv (k:=k)
 have hS:=fun hb:isBr cs k = false=>c84 (k:=k) (t:=0) (j:=0) hv hk (fun e=>by rw [hb] at e; simp at e)
 have hi:=fun hb:isBr cs k = false=>secV_in (ps:=ps) (j:=0) hb
 clear ha hSe
 by_cases hb:isBr cs k = true
 ·rw [hb] at hd hH
  generalize (arrI ps cs).map encI = A at *
  refine zP hE Proofs.Tryz.func94 Proofs.Tryz.ntmps94 rfl rfl ?_
  simp (maxSteps:=999999) (disch:=first|exact {}|omega|simp) [zS]
  refine zC (hH) ?_
  simp (maxSteps:=999999) (disch:=first|exact {}|omega|simp) [zS,hd]
 have hb':isBr cs k = false:=by simpa using hb
 have hS':=hS hb'
 rw [hi hb'] at hS'
 rw [hb',Bool.false_or] at hd
 rw [hb'] at hH
 have h2':=h2 hb'
 clear hS hi h2
 have hrun:=runN_len (sec0 ps cs k) (sec0 ps cs k).length
 have hL:=c170 (sec0 ps cs k) (sec0_b hv k) (by omega)
 rw [runO_sec hv k] at hL
 have hmem:=fun r (hr:r ∈ runN (sec0 ps cs k) (sec0 ps cs k).length)=>runN_mem (Nat.le_refl _) hr
 generalize (arrI ps cs).map encI = A at *
 generalize sec0 ps cs k = V at *
 generalize kinL ps cs k = K at *
 generalize runN V V.length = R at *
 have hC:=h116 K 4 (by omega)
 have tV:List.take V.length (V.map encI) = V.map encI:=List.take_of_length_le (by simp)
 have tK:List.take K.length (K.map encI) = K.map encI:=List.take_of_length_le (by simp)
 have tR:List.take R.length (R.map encRn) = R.map encRn:=List.take_of_length_le (by simp)
 refine zP hE Proofs.Tryz.func94 Proofs.Tryz.ntmps94 rfl rfl ?_
 simp (maxSteps:=999999) (disch:=first|exact {}|omega|simp) [zS]
 refine zC (hH) ?_
 simp (maxSteps:=999999) (disch:=first|exact {}|omega|simp) [zS]
 refine zC (hKd) ?_
 simp (maxSteps:=999999) (disch:=first|exact {}|omega|simp) [zS,tK]
 refine zC (hC) ?_
 by_cases ho:(K.any fun x=>decide (x = 4)) = true
 ·rw [ho] at hd
  simp (maxSteps:=999999) (disch:=first|exact {}|omega|simp) [zS,ho,hd]
 have ho':(K.any fun x=>decide (x = 4)) = false:=Bool.eq_false_iff.2 ho
 have h23:=h2' ho'
 rw [ho',Bool.not_false,Bool.true_and] at hd
 simp (maxSteps:=999999) (disch:=first|exact {}|omega|simp) [zS,ho']
 refine zC (hS') ?_
 simp (maxSteps:=999999) (disch:=first|exact {}|omega|simp) [zS,tV]
 refine zC (hL) ?_
 simp (maxSteps:=999999) (disch:=first|exact {}|omega|simp) [zS,tR]
 refine XL.by hE (ι:={ q:Nat // q ≤ R.length ∧ ∀ (i:Nat) (hi:i < R.length),i < q → balB K R[i] = true }) (fun q=>⟨[(7,.i (.sl (K.map encI))),(8,.i (.sl (R.map encRn))),(9,.i (.int .i64 q.1))],[]⟩)
  (fun q=>R.length - q.1) ⟨0,Nat.zero_le _,fun i hi h=>by omega⟩ ⟨by simp [tK],by simp,by simp⟩ (by kernel_rfl) ?_
 rintro ⟨q,hq,hall⟩
 by_cases hlt:q < R.length
 rotate_left
 ·obtain rfl:q = R.length:=by omega
  have hz:(R.any fun r=>!balB K r) = false:=by
   rw [List.any_eq_false]
   intro r hr
   obtain ⟨i,hi,rfl⟩:=List.getElem_of_mem hr
   simp [hall i hi hi]
  rw [hz] at hd
  simp (maxSteps:=999999) (disch:=first|exact {}|omega|simp) [zS,hlt,hd]
 have hbb:=bal_bad h23 R[q]
 obtain ⟨f,c,h1,h2,h3,h4,h5⟩:=hmem _ (List.getElem_mem hlt)
 have hg:(R.map encRn)[q]? = some (encRn R[q]):=by simp [hlt]
 have hRl:(R.map encRn).length = R.length:=by simp
 have hz:balB K R[q] = false → (R.any fun r=>!balB K r) = true:=fun h=>List.any_eq_true.2 ⟨_,List.getElem_mem hlt,by rw [h]; rfl⟩
 have hnx:balB K R[q] = true → ∀ (i:Nat) (hi:i < R.length),i < q + 1 → balB K R[i] = true:=fun h i hi hiq=>by
  by_cases e:i = q
  ·subst e; exact h
  ·exact hall i hi (by omega)
 have hrk:runK K R[q] = (rotL K f).take (c + 1):=by unfold runK; rw [h2,h3]; rfl
 have hbd:badB K R[q] = ((decide (R[q].c % 2 = 1) && decide (tal (runK K R[q]) (runK K R[q]).length ≠ 0)) || (decide (R[q].c % 2 = 0) && (decide (tal (runK K R[q]) (runK K R[q]).length ≠ 1) && decide (tal (runK K R[q]) (runK K R[q]).length ≠ -1)))):=rfl
 have hrl:(runK K R[q]).length = c + 1:=by rw [hrk]; simp [rotL_len K (show f ≤ K.length by omega)]; omega
 have hT:=c117 (runK K R[q]) (by omega)
 have hbb':=hbb (by omega)
 rw [hbd] at hbb'
 clear hbb hbd
 have hRot:=c171 K f (by omega) (by omega)
 have hrotl:=rotL_len K (show f ≤ K.length by omega)
 generalize tal (runK K R[q]) (runK K R[q]).length = t at *
 generalize balB K R[q] = b at *
 generalize hrq:R[q] = r at *
 obtain ⟨rf,rc,rs⟩:=r
 simp only at h2 h3
 subst h2 h3
 rw [hrk] at hT
 have tW:List.take (c + 1) ((rotL K f).map encI) = ((rotL K f).take (c + 1)).map encI:=by simp
 have tW2:List.take (c + 1) (List.take K.length ((rotL K f).map encI)) = ((rotL K f).take (c + 1)).map encI:=by rw [List.take_of_length_le (l:=(rotL K f).map encI) (by simp; omega)]; simp
 clear hrk hrl
 generalize (rotL K f).take (c + 1) = W at *
 have hrml:((rotL K f).map encI).length = K.length:=by simpa using hrotl
 generalize (rotL K f).map encI = Q at *
 have i1:((c:Int) + 1).toNat = c + 1:=by omega
 have i2:¬ ((c:Int) + 1 < 0):=by omega
 have i3:(c:Int) + 1 ≤ K.length:=by omega
 have i4:c + 1 ≤ K.length:=by omega
 have em:Int.tmod (c:Int) 2 = ((c % 2:Nat):Int):=tmod_nat c 2
 simp only [encRn] at hg
 simp (maxSteps:=999999) (disch:=first|exact {}|omega|simp) [zS,hlt,hg,gI hg,hRl]
 refine zC (hRot) ?_
 simp (maxSteps:=999999) (disch:=first|exact {}|omega|simp) [zS,hg,gI hg,hlt,hRl,hrml,i1,i2,i3,i4,tW,tW2]
 refine zC (hT) ?_
 by_cases e1:c % 2 = 1
 ·rw [e1] at em
  by_cases e2:t = 0
  ·have hb1:b = true:=by
    have:¬ ((c:Int) % 2 = 0):=by omega
    simpa [e2,this] using hbb'
   simp (maxSteps:=999999) (disch:=first|exact {}|omega|simp) [zS,hg,gI hg,hlt,hRl,em,e2]
   (refine ⟨⟨q + 1,by omega,hnx hb1⟩,by (simp; try omega), ?_⟩; constructor <;> (simp (maxSteps:=999999) (disch:=first|exact {}|omega|simp) [zS]) <;> (try omega))
  ·have hb1:b = false:=by
    have:((c:Int) % 2 = 1):=by omega
    simpa [e2,this] using hbb'
   rw [hz hb1] at hd
   simp (maxSteps:=999999) (disch:=first|exact {}|omega|simp) [zS,hg,gI hg,hlt,hRl,em,e2,hd]
 ·have e0:c % 2 = 0:=by omega
  rw [e0] at em
  have f0:(c:Int) % 2 = 0:=by omega
  by_cases e2:t = 1
  ·have hb1:b = true:=by simpa [e2,f0] using hbb'
   simp (maxSteps:=999999) (disch:=first|exact {}|omega|simp) [zS,hg,gI hg,hlt,hRl,em,e2]
   (refine ⟨⟨q + 1,by omega,hnx hb1⟩,by (simp; try omega), ?_⟩; constructor <;> (simp (maxSteps:=999999) (disch:=first|exact {}|omega|simp) [zS]) <;> (try omega))
  ·by_cases e3:t = -1
   ·have hb1:b = true:=by simpa [e3,f0] using hbb'
    simp (maxSteps:=999999) (disch:=first|exact {}|omega|simp) [zS,hg,gI hg,hlt,hRl,em,e3]
    (refine ⟨⟨q + 1,by omega,hnx hb1⟩,by (simp; try omega), ?_⟩; constructor <;> (simp (maxSteps:=999999) (disch:=first|exact {}|omega|simp) [zS]) <;> (try omega))
   ·have hb1:b = false:=by simpa [e2,e3,f0] using hbb'
    rw [hz hb1] at hd
    simp (maxSteps:=999999) (disch:=first|exact {}|omega|simp) [zS,hg,gI hg,hlt,hRl,em,e2,e3,hd]
noncomputable def ltS (ps:List Pt) (cs:List Cr) (k:Int):Bool:=okK ps cs k && ltB ps cs k
theorem c41 (ps:List Pt) (cs:List Cr) (k:Int) (h:(ps.length:Int) ≤ 1048576) (hc:(cs.length:Int) ≤ 1048576):PC E 41 [.agg (encPa ps cs),.i (.int .i64 k)] [.i (.bool (ltS ps cs k))]:=by
 have hd:ltS ps cs k = (okK ps cs k && ltB ps cs k):=rfl
 refine zP hE Proofs.Tryz.func41 Proofs.Tryz.ntmps41 rfl rfl ?_
 simp (maxSteps:=999999) (disch:=first|exact {}|omega|simp) [zS,encPa]
 refine zC (c56 ps cs k h hc) ?_
 by_cases hp:okK ps cs k = true
 ·have e0:=codeK_ok.2 hp
  rw [hp] at hd
  obtain ⟨hv,n,rfl,hn⟩:=okK_nat hp
  simp (maxSteps:=999999) (disch:=first|exact {}|omega|simp) [zS,e0,encPa]
  refine zC (c95 hv hn) ?_
  simp (maxSteps:=999999) (disch:=first|exact {}|omega|simp) [zS,hd]
 ·have e0:¬ codeK ps cs k = 0:=fun e=>hp (codeK_ok.1 e)
  have e1:okK ps cs k = false:=by simpa using hp
  rw [e1] at hd
  simp (maxSteps:=999999) (disch:=first|exact {}|omega|simp) [zS,e0,hd]
theorem c40 (ps:List Pt) (cs:List Cr) (k:Int) (h:(ps.length:Int) ≤ 1048576) (hc:(cs.length:Int) ≤ 1048576):PC E 40 [.agg (encPa ps cs),.i (.int .i64 k)] [.i (.bool (ltS ps cs k))]:=by
 have hd:ltS ps cs k = (okK ps cs k && ltB ps cs k):=rfl
 refine zP hE Proofs.Tryz.func40 Proofs.Tryz.ntmps40 rfl rfl ?_
 simp (maxSteps:=999999) (disch:=first|exact {}|omega|simp) [zS,encPa]
 refine zC (c54 ps cs k h hc) ?_
 by_cases hp:okK ps cs k = true
 ·have e0:=codeK_ok.2 hp
  rw [hp] at hd
  have e1:askR ps cs k = arrI ps cs:=by unfold askR; rw [if_pos hp]
  obtain ⟨hv,n,rfl,hn⟩:=okK_nat hp
  have tA:List.take (arrI ps cs).length ((arrI ps cs).map encI) = (arrI ps cs).map encI:=List.take_of_length_le (by simp)
  simp (maxSteps:=999999) (disch:=first|exact {}|omega|simp) [zS,e0,e1,encPa,tA]
  refine zC (c94 hv hn) ?_
  simp (maxSteps:=999999) (disch:=first|exact {}|omega|simp) [zS,hd]
 ·have e0:¬ codeK ps cs k = 0:=fun e=>hp (codeK_ok.1 e)
  have e1:okK ps cs k = false:=by simpa using hp
  rw [e1] at hd
  simp (maxSteps:=999999) (disch:=first|exact {}|omega|simp) [zS,e0,hd]
theorem c11 (ps:List Pt) (cs:List Cr) (k:Int) (h:ps.length ≤ maxLen) (hc:cs.length ≤ maxLen):PC E 11 [.agg (encPa ps cs),.i (.int .i64 k)] [.i (.bool true)]:=by
 have m:maxLen = 9223372036854775807:=by decide
 refine zP hE Proofs.Tryz.func11 Proofs.Tryz.ntmps11 rfl rfl ?_
 have hln:(encPa ps cs).length = 2:=rfl
 simp (maxSteps:=999999) (disch:=first|exact {}|omega|simp) [zS,hln]
 refine zC (c12 ps cs (by omega) (by omega)) ?_
 simp (maxSteps:=999999) (disch:=first|exact {}|omega|simp) [zS,hln]
 by_cases hle:(ps.length:Int) + cs.length ≤ 1048576
 rotate_left
 ·simp (maxSteps:=999999) (disch:=first|exact {}|omega|simp) [zS,hle,hln]
 have hA:=c14 ps cs (by omega) (by omega)
 have hS:=c40 ps cs k (by omega) (by omega)
 have hI:=c41 ps cs k (by omega) (by omega)
 have hQ:=c17 ps cs (by omega) (by omega)
 generalize encPa ps cs = e at *
 have tke:List.take 2 e = e:=List.take_of_length_le (by omega)
 have tkd:List.drop 2 e = []:=List.drop_of_length_le (by omega)
 generalize ltS ps cs k = v at *
 have e0:¬ ((1048576:Int) - ps.length - cs.length < 0):=by omega
 simp (maxSteps:=999999) (disch:=first|exact {}|omega|simp) [zS,hle,e0,hln,tke,tkd]
 refine zC (hA) ?_
 simp (maxSteps:=999999) (disch:=first|exact {}|omega|simp) [zS,hln,tke,tkd]
 refine zC (hS) ?_
 simp (maxSteps:=999999) (disch:=first|exact {}|omega|simp) [zS,hln,tke,tkd]
 refine zC (hA) ?_
 simp (maxSteps:=999999) (disch:=first|exact {}|omega|simp) [zS,hln,tke,tkd]
 refine zC (hI) ?_
 simp (maxSteps:=999999) (disch:=first|exact {}|omega|simp) [zS,hln,tke,tkd]
 refine zC (hA) ?_
 simp (maxSteps:=999999) (disch:=first|exact {}|omega|simp) [zS,hln,tke,tkd]
 refine zC (hQ) ?_
 simp (maxSteps:=999999) (disch:=first|exact {}|omega|simp) [zS,hln,tke,tkd]
end Go.Vai
