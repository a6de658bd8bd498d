/- Texts of this claim: Zw12, Zw13. -/
import Derived.Test.YtcclapmdkobcgaaGreatDoorUb58
set_option linter.unusedVariables false
set_option linter.unusedSimpArgs false
set_option maxHeartbeats 8000000
set_option maxRecDepth 20000
namespace Go.Vai
theorem ring_all {n cnt:Nat} {nb:Nat → List Nat} (G:Wk.Gr n cnt nb) (hn:0 < n) {m:Nat} (h:Wk.D nb m) (e:m = cnt):∀ v,v < n → v ∉ Wk.ring nb m → (nb v).length = 0:=by
 have hs:=Wk.sumTo_mem (n:=n) (Wk.ring_nodup G h) fun v hv=>by
  obtain ⟨k,hk,rfl⟩:=List.mem_map.1 hv
  exact Wk.w_bd G hn h k (by have:=List.mem_range.1 hk; omega)
 have hl:(Wk.ring nb m).length = m:=by simp [Wk.ring]
 rw [hl] at hs
 have hle:∀ v,(if v ∈ Wk.ring nb m then 2 else 0) ≤ (nb v).length:=fun v=>by
  split
  ·rename_i hv
   obtain ⟨k,hk,rfl⟩:=List.mem_map.1 hv
   rw [(h k (List.mem_range.1 hk)).1]; exact Nat.le_refl _
  ·omega
 intro v hv hv2
 refine Classical.byContradiction fun hne=>?_
 have:=Wk.sumTo_lt hle (u:=v) (by rw [if_neg hv2]; omega) n hv
 rw [hs,G.sum] at this
 omega
def isBr (cs:List Cr) (v:Int):Bool:=cs.any fun c=>decide (c.k = 1) && (decide (c.a = v) || decide (c.b = v))
theorem isBr_nb {n:Nat} {cs:List Cr} (hc:∀ c ∈ cs,Cin n c) (v:Nat):isBr cs v = true ↔ nbL cs v ≠ []:=by
 unfold isBr
 rw [List.any_eq_true]
 constructor
 ·rintro ⟨c,hcm,hcc⟩ he
  simp only [Bool.and_eq_true,Bool.or_eq_true,decide_eq_true_eq] at hcc
  obtain ⟨a0,ab,bn⟩:=hc c hcm
  have hno:∀ u,u ∉ nbL cs v:=fun u hu=>by rw [he] at hu; simp at hu
  rcases hcc.2 with e | e
  ·exact hno c.b.toNat ((nbL_mem hc).2 ⟨c,hcm,hcc.1,.inl ⟨by omega,rfl⟩⟩)
  ·exact hno c.a.toNat ((nbL_mem hc).2 ⟨c,hcm,hcc.1,.inr ⟨by omega,rfl⟩⟩)
 ·intro hne
  obtain ⟨u,hu⟩:=List.exists_mem_of_ne_nil _ hne
  obtain ⟨c,hcm,hk,hh⟩:=(nbL_mem hc).1 hu
  obtain ⟨a0,ab,bn⟩:=hc c hcm
  refine ⟨c,hcm, ?_⟩
  simp only [Bool.and_eq_true,Bool.or_eq_true,decide_eq_true_eq]
  refine ⟨hk, ?_⟩
  rcases hh with ⟨e,-⟩ | ⟨e,-⟩
  ·exact .inl (by omega)
  ·exact .inr (by omega)
theorem isBr_rnd {ps:List Pt} {cs:List Cr} (h:nmsOk ps cs = true) (hn:0 < ps.length) (ho:okR cs = true) (v:Nat) (hv:v < ps.length):isBr cs v = (rndI cs).any fun x=>decide (x = (v:Int)):=by
 have hcin:=nmsOk_cin h
 have hB:=deg_bck h (okR_deg h hn ho)
 have he:brdM cs = bcnt cs:=by
  unfold okR at ho
  rw [Bool.and_eq_true,decide_eq_true_eq,decide_eq_true_eq] at ho
  exact ho.2
 rw [Bool.eq_iff_iff,isBr_nb hcin,List.any_eq_true]
 unfold rndI rngI
 constructor
 ·intro hne
  by_cases hr:v ∈ Wk.ring (nbL cs) (brdM cs)
  ·obtain ⟨k,hk,e⟩:=List.mem_map.1 hr
   exact ⟨(v:Int),List.mem_map.2 ⟨k,hk,by rw [e]⟩,by simp⟩
  ·have:=ring_all (nb_gr h) hn hB.d he v hv hr
   exact absurd (List.eq_nil_of_length_eq_zero this) hne
 ·rintro ⟨x,hx,e⟩
  obtain ⟨k,hk,rfl⟩:=List.mem_map.1 hx
  simp only [decide_eq_true_eq] at e
  have e':Wk.w (nbL cs) k = v:=by omega
  intro h0
  have:=(hB.d k (List.mem_range.1 hk)).1
  rw [e',h0] at this
  simp at this
theorem any_backL (l:List Int) (p:Int → Bool):(backL l).any p = l.any p:=by
 unfold backL
 rw [List.any_append,List.any_reverse,← List.any_append,List.take_append_drop]
theorem isBr_arr {ps:List Pt} {cs:List Cr} (hvB:vB ps cs = true) (v:Nat) (hv:v < ps.length):isBr cs v = (arrS ps cs).any fun x=>decide (x = (v:Int)):=by
 obtain ⟨hnm,-,-,-⟩:=vB_facts hvB
 have ho:okR cs = true:=by
  have h2:=hvB
  unfold vB at h2
  simp only [Bool.and_eq_true] at h2
  refine Classical.byContradiction fun hno=>?_
  have e:papO ps cs = none:=by unfold papO; rw [if_neg hno]
  rw [e] at h2
  simp at h2
 rw [isBr_rnd hnm (by omega) ho v hv]
 unfold arrS
 rw [if_pos hvB]
 unfold arrI
 split
 ·rfl
 ·rw [any_backL]
def intP (p:Nat → Bool):Nat → List Int
 | 0=>[]
 | k + 1=>intP p k ++ if p k = true then [] else [(k:Int)]
theorem intP_len (p:Nat → Bool):∀ k,(intP p k).length ≤ k
 | 0=>by simp [intP]
 | k + 1=>by
  have:=intP_len p k
  simp only [intP]
  split <;> simp <;> omega
theorem intP_congr {p q:Nat → Bool}:∀ k,(∀ v,v < k → p v = q v) → intP p k = intP q k
 | 0,_=>rfl
 | k + 1,h=>by simp only [intP]; rw [intP_congr k (fun v hv=>h v (by omega)),h k (by omega)]
noncomputable def intS (ps:List Pt) (cs:List Cr):List Int:=if vB ps cs = true then intP (fun v=>isBr cs v) ps.length else []
theorem intS_len (ps:List Pt) (cs:List Cr):(intS ps cs).length ≤ 40:=by
 unfold intS
 split
 ·rename_i hv
  have h1:=intP_len (fun v=>isBr cs v) ps.length
  have h2:=(vB_facts hv).2.2.1
  omega
 ·simp
theorem c63 (ps:List Pt) (cs:List Cr) (rd:List Int) (hr:(rd.length:Int) ≤ 1048576) (h:(ps.length:Int) ≤ 1048576) :
  PC E 63 [.i (.ptr (encPa ps cs)),.i (.sl (rd.map encI))] [.own 1 ((intP (fun v=>rd.any fun x=>decide (x = (v:Int))) ps.length).map encI)]:=by
 generalize hp:(fun v:Nat=>rd.any fun x=>decide (x = (v:Int))) = p
 have hpv:∀ v:Nat,(rd.any fun x=>decide (x = (v:Int))) = p v:=fun v=>by rw [← hp]
 refine PC_start hE Proofs.Tryz.func63 rfl rfl Proofs.Tryz.ntmps63 (by kernel_rfl) (by kernel_rfl) (by simp) ?_
 simp (maxSteps:=999999) (disch:=first|exact {}|omega|simp) [Lw,Lm,Lt,Lo,Ln,allLen]
 refine XL.by hE (ι:={ k:Nat // k ≤ ps.length }) (fun k=>⟨[(0,.i (.ptr (encPa ps cs))),(1,.i (.sl (rd.map encI))),(5,.own 24 0 (intP p k.1).length),(6,.i (.int .i64 k.1))],[(24,⟨1,(intP p k.1).map encI⟩)]⟩)
  (fun k=>ps.length - k.1) ⟨0,Nat.zero_le _⟩ ⟨by simp [intP],by simp [intP],by simp⟩ (by kernel_rfl) ?_
 rintro ⟨k,hk⟩
 have hil:=intP_len p k
 have tX:List.take (intP p k).length ((intP p k).map encI) = (intP p k).map encI:=List.take_of_length_le (by simp)
 by_cases hlt:k < ps.length
 ·have hst:intP p (k + 1) = intP p k ++ if p k = true then [] else [(k:Int)]:=rfl
  have hh:=h109 rd (k:Int) hr
  rw [hpv] at hh
  simp (maxSteps:=999999) (disch:=first|exact {}|omega|simp) [Lw,Lm,Lt,Lo,Ln,allLen,hlt,encPa]
  refine CallK.of (hh) (by first | exact .inl rfl | exact .inr (by simp)) (by simp) ?_
  simp (maxSteps:=999999) (disch:=first|exact {}|omega|simp) [Lw,Lm,Lt,Lo,Ln,allLen]
  by_cases hb:p k = true
  ·rw [if_pos hb,List.append_nil] at hst
   simp (maxSteps:=999999) (disch:=first|exact {}|omega|simp) [Lw,Lm,Lt,Lo,Ln,allLen,hb,encPa]
   (refine ⟨⟨k + 1,by omega⟩,by (simp; try omega), ?_⟩; constructor <;> (simp (maxSteps:=999999) (disch:=first|exact {}|omega|simp) [Lw,Lm,Lt,Lo,Ln,allLen,hst,encPa]) <;> (try omega))
  ·rw [if_neg hb] at hst
   have hb':p k = false:=by simpa using hb
   simp (maxSteps:=999999) (disch:=first|exact {}|omega|simp) [Lw,Lm,Lt,Lo,Ln,allLen,hb',encPa,tX]
   (refine ⟨⟨k + 1,by omega⟩,by (simp; try omega), ?_⟩; constructor <;> (simp (maxSteps:=999999) (disch:=first|exact {}|omega|simp) [Lw,Lm,Lt,Lo,Ln,allLen,hst,encPa,encI]) <;> (try omega))
 ·obtain rfl:k = ps.length:=by omega
  simp (maxSteps:=999999) (disch:=first|exact {}|omega|simp) [Lw,Lm,Lt,Lo,Ln,allLen,hlt,encPa,tX]
theorem arrS_len (ps:List Pt) (cs:List Cr) (hc:(cs.length:Int) ≤ 1048576):((arrS ps cs).length:Int) ≤ 1048576:=by
 unfold arrS
 split
 ·rename_i hv
  obtain ⟨hnm,-,-,-⟩:=vB_facts hv
  have ho:okR cs = true:=by
   have h2:=hv
   unfold vB at h2
   simp only [Bool.and_eq_true] at h2
   refine Classical.byContradiction fun hno=>?_
   have e:papO ps cs = none:=by unfold papO; rw [if_neg hno]
   rw [e] at h2
   simp at h2
  have:=(rnd_in hnm ho).2.1
  have hb:(backL (rndI cs)).length = (rndI cs).length:=by unfold backL; simp; omega
  unfold arrI
  split <;> omega
 ·simp
theorem c36 (ps:List Pt) (cs:List Cr) (h:(ps.length:Int) ≤ 1048576) (hc:(cs.length:Int) ≤ 1048576):PC E 36 [.agg (encPa ps cs)] [.own 1 ((intS ps cs).map encI)]:=by
 have hal:=arrS_len ps cs hc
 have hia:=fun hv=>isBr_arr (ps:=ps) (cs:=cs) hv
 refine PC_start hE Proofs.Tryz.func36 rfl rfl Proofs.Tryz.ntmps36 (by kernel_rfl) (by kernel_rfl) (by simp) ?_
 simp (maxSteps:=999999) (disch:=first|exact {}|omega|simp) [Lw,Lm,Lt,Lo,Ln,allLen,encPa]
 refine CallK.of (c59 ps cs h hc) (by first | exact .inl rfl | exact .inr (by simp)) (by simp) ?_
 have tA:List.take (arrS ps cs).length ((arrS ps cs).map encI) = (arrS ps cs).map encI:=List.take_of_length_le (by simp)
 simp (maxSteps:=999999) (disch:=first|exact {}|omega|simp) [Lw,Lm,Lt,Lo,Ln,allLen]
 by_cases hv:vB ps cs = true
 rotate_left
 ·have e:vB ps cs = false:=by simpa using hv
  have n1:intS ps cs = []:=by unfold intS; rw [e]; rfl
  simp (maxSteps:=999999) (disch:=first|exact {}|omega|simp) [Lw,Lm,Lt,Lo,Ln,allLen,e,n1]
 have n1:intP (fun v=>(arrS ps cs).any fun x=>decide (x = (v:Int))) ps.length = intS ps cs:=by
  unfold intS; rw [if_pos hv]
  exact intP_congr _ fun v hlt=>(hia hv v hlt).symm
 have hin:=c63 ps cs (arrS ps cs) hal h
 rw [n1] at hin
 have t4:List.take (intS ps cs).length ((intS ps cs).map encI) = (intS ps cs).map encI:=List.take_of_length_le (by simp)
 simp (maxSteps:=999999) (disch:=first|exact {}|omega|simp) [Lw,Lm,Lt,Lo,Ln,allLen,hv,tA]
 refine CallK.of (hin) (by first | exact .inl rfl | exact .inr (by simp)) (by simp) ?_
 simp (maxSteps:=999999) (disch:=first|exact {}|omega|simp) [Lw,Lm,Lt,Lo,Ln,allLen,t4]
theorem c110 (c:Cr) (k:Int):PC E 110 [.agg (encK c),.i (.ptr [.int .i64 k])] [.i (.bool (decide (c.k = 1) && (decide (c.a = k) || decide (c.b = k))))]:=by
 refine PC_start hE Proofs.Tryz.func110 rfl rfl Proofs.Tryz.ntmps110 (by kernel_rfl) (by kernel_rfl) (by simp) ?_
 simp (maxSteps:=999999) (disch:=first|exact {}|omega|simp) [Lw,Lm,Lt,Lo,Ln,allLen,encK]
 (first | refine Gd.dec (fun h1=>?_) (fun h1=>?_) | refine Gd.intro (fun h1=>?_) (fun h1=>?_)) <;> simp (maxSteps:=999999) (disch:=first|exact {}|omega|simp) [Lw,Lm,Lt,Lo,Ln,allLen,h1]
 (first | refine Gd.dec (fun h2=>?_) (fun h2=>?_) | refine Gd.intro (fun h2=>?_) (fun h2=>?_)) <;> simp (maxSteps:=999999) (disch:=first|exact {}|omega|simp) [Lw,Lm,Lt,Lo,Ln,allLen,h2]
theorem c65 (ps:List Pt) (cs:List Cr) (k:Int) (hc:(cs.length:Int) ≤ 1048576):PC E 65 [.agg (encPa ps cs),.i (.int .i64 k)] [.i (.bool (isBr cs k))]:=by
 have hcf:=c73 cs 110 [.ptr [.int .i64 k]] (fun c=>decide (c.k = 1) && (decide (c.a = k) || decide (c.b = k))) (fun c _=>c110 c k) hc
 rw [show (cs.any fun c=>decide (c.k = 1) && (decide (c.a = k) || decide (c.b = k))) = isBr cs k from rfl] at hcf
 refine PC_start hE Proofs.Tryz.func65 rfl rfl Proofs.Tryz.ntmps65 (by kernel_rfl) (by kernel_rfl) (by simp) ?_
 simp (maxSteps:=999999) (disch:=first|exact {}|omega|simp) [Lw,Lm,Lt,Lo,Ln,allLen,encPa]
 refine CallK.of (hcf) (by first | exact .inl rfl | exact .inr (by simp)) (by simp) ?_
 simp (maxSteps:=999999) (disch:=first|exact {}|omega|simp) [Lw,Lm,Lt,Lo,Ln,allLen]
theorem c37 (ps:List Pt) (cs:List Cr) (h:(ps.length:Int) ≤ 1048576) (hc:(cs.length:Int) ≤ 1048576):PC E 37 [.agg (encPa ps cs)] [.own 1 ((intS ps cs).map encI)]:=by
 refine PC_start hE Proofs.Tryz.func37 rfl rfl Proofs.Tryz.ntmps37 (by kernel_rfl) (by kernel_rfl) (by simp) ?_
 simp (maxSteps:=999999) (disch:=first|exact {}|omega|simp) [Lw,Lm,Lt,Lo,Ln,allLen,encPa]
 refine CallK.of (c14 ps cs h hc) (by first | exact .inl rfl | exact .inr (by simp)) (by simp) ?_
 simp (maxSteps:=999999) (disch:=first|exact {}|omega|simp) [Lw,Lm,Lt,Lo,Ln,allLen]
 by_cases hv:vB ps cs = true
 rotate_left
 ·have e:vB ps cs = false:=by simpa using hv
  have n1:intS ps cs = []:=by unfold intS; rw [e]; rfl
  simp (maxSteps:=999999) (disch:=first|exact {}|omega|simp) [Lw,Lm,Lt,Lo,Ln,allLen,e,n1]
 have n1:intS ps cs = intP (fun v=>isBr cs v) ps.length:=by unfold intS; rw [if_pos hv]
 rw [n1]
 generalize hp:(fun v:Nat=>isBr cs (v:Int)) = p
 have hpv:∀ v:Nat,isBr cs (v:Int) = p v:=fun v=>by rw [← hp]
 simp (maxSteps:=999999) (disch:=first|exact {}|omega|simp) [Lw,Lm,Lt,Lo,Ln,allLen,hv]
 refine CallK.of (c64 ps) (by first | exact .inl rfl | exact .inr (by simp)) (by simp) ?_
 simp (maxSteps:=999999) (disch:=first|exact {}|omega|simp) [Lw,Lm,Lt,Lo,Ln,allLen]
 refine XL.by hE (ι:={ k:Nat // k ≤ ps.length }) (fun k=>⟨[(1,.ptr 1 0 0),(3,.own 21 0 (intP p k.1).length),(10,.i (.int .i64 ps.length)),(11,.i (.int .i64 k.1))],[(1,⟨2,[encPa ps cs]⟩),(21,⟨1,(intP p k.1).map encI⟩)]⟩)
  (fun k=>ps.length - k.1) ⟨0,Nat.zero_le _⟩ ⟨by simp [intP],by simp [intP,encPa],by simp⟩ (by kernel_rfl) ?_
 rintro ⟨k,hk⟩
 have hil:=intP_len p k
 have tX:List.take (intP p k).length ((intP p k).map encI) = (intP p k).map encI:=List.take_of_length_le (by simp)
 by_cases hlt:k < ps.length
 ·have hst:intP p (k + 1) = intP p k ++ if p k = true then [] else [(k:Int)]:=rfl
  have hh:=c65 ps cs (k:Int) hc
  rw [hpv] at hh
  simp (maxSteps:=999999) (disch:=first|exact {}|omega|simp) [Lw,Lm,Lt,Lo,Ln,allLen,hlt,encPa]
  refine CallK.of (hh) (by first | exact .inl rfl | exact .inr (by simp)) (by simp) ?_
  simp (maxSteps:=999999) (disch:=first|exact {}|omega|simp) [Lw,Lm,Lt,Lo,Ln,allLen]
  by_cases hb:p k = true
  ·rw [if_pos hb,List.append_nil] at hst
   simp (maxSteps:=999999) (disch:=first|exact {}|omega|simp) [Lw,Lm,Lt,Lo,Ln,allLen,hb,encPa]
   (refine ⟨⟨k + 1,by omega⟩,by (simp; try omega), ?_⟩; constructor <;> (simp (maxSteps:=999999) (disch:=first|exact {}|omega|simp) [Lw,Lm,Lt,Lo,Ln,allLen,hst,encPa]) <;> (try omega))
  ·rw [if_neg hb] at hst
   have hb':p k = false:=by simpa using hb
   simp (maxSteps:=999999) (disch:=first|exact {}|omega|simp) [Lw,Lm,Lt,Lo,Ln,allLen,hb',encPa,tX]
   (refine ⟨⟨k + 1,by omega⟩,by (simp; try omega), ?_⟩; constructor <;> (simp (maxSteps:=999999) (disch:=first|exact {}|omega|simp) [Lw,Lm,Lt,Lo,Ln,allLen,hst,encPa,encI]) <;> (try omega))
 ·obtain rfl:k = ps.length:=by omega
  simp (maxSteps:=999999) (disch:=first|exact {}|omega|simp) [Lw,Lm,Lt,Lo,Ln,allLen,hlt,encPa,tX]
end Go.Vai
namespace Go.Vai
open Go.RowKit (Below)
theorem c10 (ps:List Pt) (cs:List Cr) (h:ps.length ≤ maxLen) (hc:cs.length ≤ maxLen):PC E 10 [.agg (encPa ps cs)] [.i (.bool true)]:=by
 have m:maxLen = 9223372036854775807:=by decide
 refine law_start hE Proofs.Tryz.func10 rfl rfl Proofs.Tryz.ntmps10 (by kernel_rfl) (by simp) fun F w a hx hf0=>?_
 by_cases hle:(ps.length:Int) + cs.length ≤ 1048576
 rotate_left
 ·refine segEnd hE hx (Back.refl _ _) hf0 (by kernel_rfl) ?_
  simp (maxSteps:=999999) (disch:=first|exact {}|omega|simp) [Lw,Lm,Lt,Lo,Ln,allLen,encPa]
  refine CallK.of (c11 ps cs (by omega) (by omega)) (by first | exact .inl rfl | exact .inr (by simp)) (by simp) ?_
  simp (maxSteps:=999999) (disch:=first|exact {}|omega|simp) [Lw,Lm,Lt,Lo,Ln,allLen,hle]
 have g1:(ps.length:Int) ≤ 1048576:=by omega
 have g2:(cs.length:Int) ≤ 1048576:=by omega
 have hvl:=intS_len ps cs
 have cS:=c36 ps cs g1 g2
 have cI:=c37 ps cs g1 g2
 generalize intS ps cs = V at hvl cS cI
 have g3:(V.length:Int) ≤ 1048576:=by omega
 have tV:List.take V.length (V.map encI) = V.map encI:=List.take_of_length_le (by simp)
 refine seg hE 0 ⟨[(1,.ptr 1 0 0)],[(1,⟨2,[encPa ps cs]⟩)]⟩ hx (Back.refl _ _) hf0 (by kernel_rfl) (by kernel_rfl) ?_ fun a w1 hf1=>?_
 ·simp (maxSteps:=999999) (disch:=first|exact {}|omega|simp) [Lw,Lm,Lt,Lo,Ln,allLen,cutC,encPa]
  exact ⟨by simp (maxSteps:=999999) (disch:=first|exact {}|omega|simp) [Lw,Lm,Lt,Lo,Ln,allLen],by simp (maxSteps:=999999) (disch:=first|exact {}|omega|simp) [Lw,Lm,Lt,Lo,Ln,allLen,encPa],by simp (maxSteps:=999999) (disch:=first|exact {}|omega|simp) [Lw,Lm,Lt,Lo,Ln,allLen]⟩
 simp only [restN]
 have eF:(fun b=>F b ∨ False) = F:=by funext b; simp
 obtain ⟨zA,FA,bk,off,cv,hzA,hxA,hbA,hsA,-,hGA,hfA,hbkA,hcA⟩:=freeze_var (R:=fun _=>False) (F:=F) (ys:=encPa ps cs) (by rw [eF]; exact hx) (by rw [eF]; exact hf1) (fun _ _ h=>h) hx.glob rfl rfl (by decide) rfl
  (fun Fc j x y v _ _ h1 h2 h3=>by rw [h1] at h2; obtain rfl:=Option.some.inj h2; exact h3)
 have eFA:(fun b=>FA b ∨ False) = FA:=by funext b; simp
 rw [eFA] at hxA hbA hfA
 rw [eF] at hbA
 subst hzA
 have hfB:=hfA.unpin (t:=1) rfl
 have e0:¬ ((1048576:Int) - ps.length - cs.length < 0):=by omega
 refine seg hE 3 ⟨[(1,.i (.ptr (encPa ps cs))),(4,.own 18 0 V.length)],[(18,⟨1,V.map encI⟩)]⟩ hxA hbA hfB (by kernel_rfl) (by kernel_rfl) ?_ fun a w2 hf2=>?_
 ·simp (maxSteps:=999999) (disch:=first|exact {}|omega|simp) [Lw,Lm,Lt,Lo,Ln,allLen,cutC,encPa]
  refine CallK.of (c11 ps cs (by omega) (by omega)) (by first | exact .inl rfl | exact .inr (by simp)) (by simp) ?_
  simp (maxSteps:=999999) (disch:=first|exact {}|omega|simp) [Lw,Lm,Lt,Lo,Ln,allLen,hle,e0,encPa]
  refine CallK.of (c13 ps cs g1 g2) (by first | exact .inl rfl | exact .inr (by simp)) (by simp) ?_
  simp (maxSteps:=999999) (disch:=first|exact {}|omega|simp) [Lw,Lm,Lt,Lo,Ln,allLen,encPa]
  refine CallK.of (cS) (by first | exact .inl rfl | exact .inr (by simp)) (by simp) ?_
  simp (maxSteps:=999999) (disch:=first|exact {}|omega|simp) [Lw,Lm,Lt,Lo,Ln,allLen,encPa]
  exact ⟨by simp (maxSteps:=999999) (disch:=first|exact {}|omega|simp) [Lw,Lm,Lt,Lo,Ln,allLen],by simp (maxSteps:=999999) (disch:=first|exact {}|omega|simp) [Lw,Lm,Lt,Lo,Ln,allLen,encPa],by simp (maxSteps:=999999) (disch:=first|exact {}|omega|simp) [Lw,Lm,Lt,Lo,Ln,allLen]⟩
 simp only [restN]
 refine wp_seq (region_hand hE 1 (S1:=⟨[(19,.agg (encPa ps cs)),(1,.i (.ptr (encPa ps cs))),(4,.own 18 0 V.length)],[(18,⟨1,V.map encI⟩)]⟩) hxA hf2 (by kernel_rfl) rfl rfl ?_ fun a w3 hf3=>?_)
 ·simp (maxSteps:=999999) (disch:=first|exact {}|omega|simp) [Lw,Lm,Lt,Lo,Ln,allLen,encPa]
  exact ⟨by simp (maxSteps:=999999) (disch:=first|exact {}|omega|simp) [Lw,Lm,Lt,Lo,Ln,allLen],by simp (maxSteps:=999999) (disch:=first|exact {}|omega|simp) [Lw,Lm,Lt,Lo,Ln,allLen,encPa],by simp (maxSteps:=999999) (disch:=first|exact {}|omega|simp) [Lw,Lm,Lt,Lo,Ln,allLen]⟩
 refine Oper.wp_mono ?_ (deepCall_wp hxA hf3 (d:=20) rfl (by decide) (vs:=[.agg (encPa ps cs)]) (by simp) (by simp) rfl (PDPat ps cs g1 g2) [(1,.i (.ptr (encPa ps cs)))] (by simp [fixB,look_cons]) _)
 rintro a' w' ⟨z1,F1,R1,v1,us,hz1,hx1,hb1,h01,hFR1,hG1,hm1,ht1,hps,hf4⟩
 have hp0:=hps (1,.i (.ptr (encPa ps cs))) (by simp)
 simp only at hp0
 subst hz1
 simp only [pinT,List.map_cons,List.map_nil,List.cons_append,List.nil_append] at hf4
 generalize us 1 = u0 at *
 clear hps hf3 hf2 hfB hfA hf1 hf0
 have htr:=ht1.tr
 obtain ⟨cv1,Rs1,rfl,q1,q2,q3,q4⟩:=htr
 have hsz:cv1.size = 2:=by rw [q1]; rfl
 obtain ⟨a1,a2,rfl⟩:∃ v1 v2,cv1 = #[v1,v2]:=by
  refine ⟨cv1[0],cv1[1], ?_⟩
  refine Array.ext (by simp [hsz]) fun j h1 h2=>?_
  match j,h2 with
  | 0,_=>rfl
  | 1,_=>rfl
 have T1:=q4 0 (.sl (encPs ps)) a1 rfl rfl
 have T2:=q4 1 (.sl (cs.map encK)) a2 rfl rfl
 refine ⟨z1,_,_,⟨[(5,.ptr 5 0 0),(1,.pin u0 (.i (.ptr (encPa ps cs)))),(4,.own 18 0 V.length)],[(5,⟨2,[[.raw a1,.raw a2]]⟩),(18,⟨1,V.map encI⟩)]⟩,hx1,hf4.recast (u':=.agg [.raw a1,.raw a2]) fun F ρ v h=>pin_raws h, ?_,fun a w5 hf5=>?_⟩
 ·simp (maxSteps:=999999) (disch:=first|exact {}|omega|simp) [Lw,Lm,Lt,Lo,Ln,allLen]
  exact ⟨by simp (maxSteps:=999999) (disch:=first|exact {}|omega|simp) [Lw,Lm,Lt,Lo,Ln,allLen],by simp (maxSteps:=999999) (disch:=first|exact {}|omega|simp) [Lw,Lm,Lt,Lo,Ln,allLen],by simp (maxSteps:=999999) (disch:=first|exact {}|omega|simp) [Lw,Lm,Lt,Lo,Ln,allLen]⟩
 show Code.wp _ _ _ _ _
 obtain ⟨z2,F2,bk2,off2,cv2,hz2,hx2,hb2,hs2,hFR2,hG2,hf6,hbk2,hc2⟩:=freeze_var (ys:=encPa ps cs) hx1 hf5 hFR1 hG1 rfl rfl (by decide) rfl
  (fun Fc j x y v k1 k2 h1 h2 h3=>by
   match j,h1,h2 with
   | 0,h1,h2 =>
    obtain rfl:=Option.some.inj h1
    obtain rfl:=Option.some.inj h2
    rw [h3.raw_eq]
    exact T1.rep.mono (fun b hb=>k1 b (.inr (q2 0 b hb))) fun b hb=>k2 b (.inr (q2 0 b hb))
   | 1,h1,h2 =>
    obtain rfl:=Option.some.inj h1
    obtain rfl:=Option.some.inj h2
    rw [h3.raw_eq]
    exact T2.rep.mono (fun b hb=>k1 b (.inr (q2 1 b hb))) fun b hb=>k2 b (.inr (q2 1 b hb))
   | j + 2,h1,h2=>simp at h1)
 subst hz2
 clear hf5 hf4
 have hb02:=hb1.trans hb2
 refine seg hE 3 ⟨[(5,.pin (.pointer (some ⟨bk2,off2,none⟩)) (.i (.ptr (encPa ps cs)))),(1,.pin u0 (.i (.ptr (encPa ps cs)))),(4,.own 18 0 V.length),(6,.own 22 0 V.length),(7,.i (.int .i64 1))],
  [(18,⟨1,V.map encI⟩),(22,⟨1,V.map encI⟩)]⟩ hx2 (hbA.trans hb02) hf6 (by kernel_rfl) (by kernel_rfl) ?_ fun a w7 hf7=>?_
 ·simp (maxSteps:=999999) (disch:=first|exact {}|omega|simp) [Lw,Lm,Lt,Lo,Ln,allLen,cutC,encPa]
  refine CallK.of (cI) (by first | exact .inl rfl | exact .inr (by simp)) (by simp) ?_
  simp (maxSteps:=999999) (disch:=first|exact {}|omega|simp) [Lw,Lm,Lt,Lo,Ln,allLen,encPa,tV]
  refine CallK.of (c31 V V g3 g3) (by first | exact .inl rfl | exact .inr (by simp)) (by simp) ?_
  simp (maxSteps:=999999) (disch:=first|exact {}|omega|simp) [Lw,Lm,Lt,Lo,Ln,allLen,encPa]
  refine CallK.of (c13 ps cs g1 g2) (by first | exact .inl rfl | exact .inr (by simp)) (by simp) ?_
  simp (maxSteps:=999999) (disch:=first|exact {}|omega|simp) [Lw,Lm,Lt,Lo,Ln,allLen,encPa]
  refine CallK.of (c15 ps cs g1 g2) (by first | exact .inl rfl | exact .inr (by simp)) (by simp) ?_
  simp (maxSteps:=999999) (disch:=first|exact {}|omega|simp) [Lw,Lm,Lt,Lo,Ln,allLen,encPa]
  exact ⟨by simp (maxSteps:=999999) (disch:=first|exact {}|omega|simp) [Lw,Lm,Lt,Lo,Ln,allLen,encPa],by simp (maxSteps:=999999) (disch:=first|exact {}|omega|simp) [Lw,Lm,Lt,Lo,Ln,allLen,encPa],by simp (maxSteps:=999999) (disch:=first|exact {}|omega|simp) [Lw,Lm,Lt,Lo,Ln,allLen]⟩
 simp only [restN]
 have hf8:=hf7.view (t:=5) (u':=.i (.ptr [.raw a1,.raw a2])) rfl (fun F' ρ' hsub _=>.i _ _ (.ptr _ bk2 off2 cv2 (hsub _ (.inl hbk2))
  (fun j x hj=>by rw [cell_of_heap (same_of_fits hx2 hf7 bk2 (.inl hbk2))]; exact (hc2 j x hj).1) fun j x hj=>(hc2 j x hj).2.mono hsub fun b hb=>same_of_fits hx2 hf7 b hb))
 refine wp_seq (region_hand hE 2 (S1:=⟨[(32,.agg [.raw a1,.raw a2]),(33,.i (.int .i64 1)),(1,.pin u0 (.i (.ptr (encPa ps cs)))),(4,.own 18 0 V.length),(6,.own 22 0 V.length)],
  [(18,⟨1,V.map encI⟩),(22,⟨1,V.map encI⟩)]⟩) hx2 hf8 (by kernel_rfl) rfl rfl ?_ fun a w9 hf9=>?_)
 ·simp (maxSteps:=999999) (disch:=first|exact {}|omega|simp) [Lw,Lm,Lt,Lo,Ln,allLen]
  exact ⟨by simp (maxSteps:=999999) (disch:=first|exact {}|omega|simp) [Lw,Lm,Lt,Lo,Ln,allLen,encPa],by simp (maxSteps:=999999) (disch:=first|exact {}|omega|simp) [Lw,Lm,Lt,Lo,Ln,allLen],by simp (maxSteps:=999999) (disch:=first|exact {}|omega|simp) [Lw,Lm,Lt,Lo,Ln,allLen]⟩
 have e1:∀ b,R1 b → z2.w.heap[b]? = z1.w.heap[b]?:=fun b hb=>same_of_back hx1 hb2 b (.inr hb)
 have e9:∀ b,R1 b → w9.heap[b]? = z1.w.heap[b]?:=fun b hb=>(same_of_fits hx2 hf9 b (.inr hb)).trans (e1 b hb)
 have hf10:=hf9.pinAgg (t:=32) (cs:=#[a1,a2]) (y:=.agg (encPa ps cs)) (by simp [look_cons]) (fun F' ρ' hsub=>.agg _ _ rfl fun j x v hj hv=>by
  match j,hj,hv with
  | 0,hj,hv =>
   obtain rfl:=Option.some.inj hj
   obtain rfl:=Option.some.inj hv
   exact T1.rep.mono (fun b hb=>hsub b (.inr (q2 0 b hb))) fun b hb=>e9 b (q2 0 b hb)
  | 1,hj,hv =>
   obtain rfl:=Option.some.inj hj
   obtain rfl:=Option.some.inj hv
   exact T2.rep.mono (fun b hb=>hsub b (.inr (q2 1 b hb))) fun b hb=>e9 b (q2 1 b hb)
  | j + 2,hj,hv=>simp at hv)
 have ht2:=ht1.keep hb2.kept.size e1
 have hp2:RepA F2 (fun _=>none) z2.w (.i (.ptr (encPa ps cs))) u0:=hp0.fix rfl hs2 fun b hb=>same_of_back hx1 hb2 b (.inl hb)
 refine Oper.wp_mono ?_ (meltCall_wp hx2 hb02 hf10 (fun b hb=>hs2 b (h01 b hb)) hFR2 hG2 hm1 ht2 (d:=34) rfl (by decide) rfl (by simp [look_cons]) (by simp [look_cons]) (PWPat ps cs 1 (by omega) (by omega))
  [(1,.pin u0 (.i (.ptr (encPa ps cs)))),(4,.own 18 0 V.length),(6,.own 22 0 V.length)]
  ⟨⟨by simp [look_cons],.inr (.inr ⟨_,_,rfl,rfl,hp2⟩)⟩,⟨by simp [look_cons],.inr (.inl ⟨_,_,_,rfl⟩)⟩,⟨by simp [look_cons],.inr (.inl ⟨_,_,_,rfl⟩)⟩,trivial⟩
  ⟨flatInt V,flatInt V,trivial⟩ _)
 rintro a' w' ⟨z3,hx3,hb3,hf11⟩
 refine ⟨z3,F2,_,⟨[(1,.pin u0 (.i (.ptr (encPa ps cs)))),(7,.i (.int .i64 (1 + 6 * ps.length + 3 * cs.length))),(4,.own 18 0 V.length),(6,.own 22 0 V.length)],
  [(18,⟨1,V.map encI⟩),(22,⟨1,V.map encI⟩)]⟩,hx3,hf11, ?_,fun a w12 hf12=>?_⟩
 ·simp (maxSteps:=999999) (disch:=first|exact {}|omega|simp) [Lw,Lm,Lt,Lo,Ln,allLen]
  exact ⟨by simp (maxSteps:=999999) (disch:=first|exact {}|omega|simp) [Lw,Lm,Lt,Lo,Ln,allLen,encPa],by simp (maxSteps:=999999) (disch:=first|exact {}|omega|simp) [Lw,Lm,Lt,Lo,Ln,allLen],by simp (maxSteps:=999999) (disch:=first|exact {}|omega|simp) [Lw,Lm,Lt,Lo,Ln,allLen]⟩
 show Code.wp _ _ _ _ _
 refine segEnd hE hx3 (hbA.trans hb3) hf12 (by kernel_rfl) ?_
 have e2:¬ ((1:Int) + 6 * ps.length + 3 * cs.length < 0):=by omega
 have e3:¬ ((1:Int) + V.length < 0):=by omega
 have cm:=c32 V 1 (by omega) (by omega)
 have htm:((marks 1 V.length).map encI).take V.length = (marks 1 V.length).map encI:=by rw [List.take_of_length_le (by simp)]
 have hfm:=flatInt (marks 1 V.length)
 clear hf12 hf11 hf10 hf9 hf8 hf7 hf6
 simp (maxSteps:=999999) (disch:=first|exact {}|omega|simp) [Lw,Lm,Lt,Lo,Ln,allLen,e2,tV]
 refine CallK.of (c31 V V g3 g3) (by first | exact .inl rfl | exact .inr (by simp)) (by simp) ?_
 simp (maxSteps:=999999) (disch:=first|exact {}|omega|simp) [Lw,Lm,Lt,Lo,Ln,allLen]
 refine MutK.of cm (by simp) (by simp) (by simp) (by simp) (by simp) ?_
 simp (maxSteps:=999999) (disch:=first|exact {}|omega|simp) [Lw,Lm,Lt,Lo,Ln,allLen,htm]
 refine CallK.of (c33 V.length 1 (by omega) (by omega)) (by first | exact .inl rfl | exact .inr (by simp)) (by simp) ?_
 simp (maxSteps:=999999) (disch:=first|exact {}|omega|simp) [Lw,Lm,Lt,Lo,Ln,allLen,e3,encPa]
 refine CallK.of (c13 ps cs g1 g2) (by first | exact .inl rfl | exact .inr (by simp)) (by simp) ?_
 simp (maxSteps:=999999) (disch:=first|exact {}|omega|simp) [Lw,Lm,Lt,Lo,Ln,allLen,encPa]
 refine CallK.of (cI) (by first | exact .inl rfl | exact .inr (by simp)) (by simp) ?_
 simp (maxSteps:=999999) (disch:=first|exact {}|omega|simp) [Lw,Lm,Lt,Lo,Ln,allLen,tV]
 refine CallK.of (c31 V V g3 g3) (by first | exact .inl rfl | exact .inr (by simp)) (by simp) ?_
 simp (maxSteps:=999999) (disch:=first|exact {}|omega|simp) [Lw,Lm,Lt,Lo,Ln,allLen,htm]
 refine CallK.of (c33 V.length 1 (by omega) (by omega)) (by first | exact .inl rfl | exact .inr (by simp)) (by simp) ?_
 simp (maxSteps:=999999) (disch:=first|exact {}|omega|simp) [Lw,Lm,Lt,Lo,Ln,allLen,e3]
end Go.Vai
