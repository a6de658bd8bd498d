/- Texts of this claim: Zp10, Zp11. -/
import Derived.Test.YtmgdmldhgphnmaaGreatDoorUb11
set_option linter.unusedVariables false
set_option linter.unusedSimpArgs false
set_option maxHeartbeats 4000000
namespace Go.Vai
theorem c255 (x y:Nu) {K M M':Nat} (h:NB K M x) (h':NB K M' y) (hK:K ≤ 60) (hM:M + M' ≤ 4611686018427387904):PC E 255 [.agg (encN x),.agg (encN y)] [.i (.int .i64 (ncmp x y))]:=by
 refine PC_start hE Proofs.Tryz.func255 rfl rfl Proofs.Tryz.ntmps255 (by kernel_rfl) (by kernel_rfl) (by simp) ?_
 simp (maxSteps:=999999) (disch:=first|exact {}|omega|simp) [Lw,Lm,Lt,Lo,Ln,allLen]
 refine CallK.of (c162 x) (by first | exact .inl rfl | exact .inr (by simp)) (by simp) ?_
 simp (maxSteps:=999999) (disch:=first|exact {}|omega|simp) [Lw,Lm,Lt,Lo,Ln,allLen]
 refine CallK.of (c162 y) (by first | exact .inl rfl | exact .inr (by simp)) (by simp) ?_
 simp (maxSteps:=999999) (disch:=first|exact {}|omega|simp) [Lw,Lm,Lt,Lo,Ln,allLen]
 refine CallK.of (c167 x y h h' hK hM) (by first | exact .inl rfl | exact .inr (by simp)) (by simp) ?_
 simp (maxSteps:=999999) (disch:=first|exact {}|omega|simp) [Lw,Lm,Lt,Lo,Ln,allLen]
 have hs:=h.sub h'
 refine CallK.of (c166 _ (hs.i64 hM hK) (hs.ne hM).1 (hs.ne hM).2) (by first | exact .inl rfl | exact .inr (by simp)) (by simp) ?_
 simp (maxSteps:=999999) (disch:=first|exact {}|omega|simp) [Lw,Lm,Lt,Lo,Ln,allLen,ncmp]
theorem c169 (p q:Pt) {K M M':Nat} (h:PB K M p) (h':PB K M' q) (hK:K ≤ 60) (hM:M + M' ≤ 4611686018427387904):PC E 169 [.agg (encP p),.agg (encP q)] [.i (.int .i64 (pcmp p q))]:=by
 refine PC_start hE Proofs.Tryz.func169 rfl rfl Proofs.Tryz.ntmps169 (by kernel_rfl) (by kernel_rfl) (by simp) ?_
 simp (maxSteps:=999999) (disch:=first|exact {}|omega|simp) [Lw,Lm,Lt,Lo,Ln,allLen,encP]
 refine CallK.of (c255 p.x q.x h.1 h'.1 hK hM) (by first | exact .inl rfl | exact .inr (by simp)) (by simp) ?_
 simp (maxSteps:=999999) (disch:=first|exact {}|omega|simp) [Lw,Lm,Lt,Lo,Ln,allLen]
 (first | refine Gd.dec (fun h1=>?_) (fun h1=>?_) | refine Gd.intro (fun h1=>?_) (fun h1=>?_)) <;> simp (maxSteps:=999999) (disch:=first|exact {}|omega|simp) [Lw,Lm,Lt,Lo,Ln,allLen,h1]
 ·refine CallK.of (c255 p.y q.y h.2 h'.2 hK hM) (by first | exact .inl rfl | exact .inr (by simp)) (by simp) ?_
  simp (maxSteps:=999999) (disch:=first|exact {}|omega|simp) [Lw,Lm,Lt,Lo,Ln,allLen,pcmp,h1]
 ·simp (maxSteps:=999999) (disch:=first|exact {}|omega|simp) [Lw,Lm,Lt,Lo,Ln,allLen,pcmp,h1]
def enc1 (d:Int):List IV:=[.int .i64 d]
def dls (l:List Pt) (k:Nat):List Int:=(List.range k).map (dl l)
theorem dls_succ (l:List Pt) (k:Nat):dls l (k + 1) = dls l k ++ [dl l k]:=by simp [dls,List.range_succ]
@[simp] theorem dls_length (l:List Pt) (k:Nat):(dls l k).length = k:=by simp [dls]
def sidesOk (l:List Pt):Bool:=(List.range l.length).all fun k=>decide (0 ≤ dl l k)
theorem sides_no {l:List Pt} {k:Nat} (hk:k < l.length) (h:dl l k < 0):sidesOk l = false:=by
 rw [← Bool.not_eq_true]; intro hr
 simp only [sidesOk,List.all_eq_true,List.mem_range,decide_eq_true_eq] at hr
 have:=hr k hk; omega
theorem sides_yes {l:List Pt} (h:∀ j,j < l.length → 0 ≤ dl l j):sidesOk l = true:=by
 simp only [sidesOk,List.all_eq_true,List.mem_range,decide_eq_true_eq]; exact h
theorem c212 (l:List Pt) {K M:Nat} (h:∀ p ∈ l,PB K M p) (hK:K ≤ 60) (hM:12 * M ≤ 4611686018427387904) (hl:(l.length:Int) ≤ 1048576) :
  PC E 212 [.i (.sl (encPs l))] [.own 1 (if sidesOk l = true then (dls l l.length).map enc1 else []),.i (.bool (sidesOk l))]:=by
 refine PC_start hE Proofs.Tryz.func212 rfl rfl Proofs.Tryz.ntmps212 (by kernel_rfl) (by kernel_rfl) (by simp) ?_
 simp (maxSteps:=999999) (disch:=first|exact {}|omega|simp) [Lw,Lm,Lt,Lo,Ln,allLen]
 refine XL.by hE (ι:={ k:Nat // k ≤ l.length ∧ ∀ j,j < k → 0 ≤ dl l j }) (fun k=>⟨[(0,.i (.sl (encPs l))),(4,if k.1 = 0 then .esl else .own 33 0 k.1),(5,.i (.int .i64 k.1))],if k.1 = 0 then [] else [(33,⟨1,(dls l k.1).map enc1⟩)]⟩)
  (fun k=>l.length - k.1) ⟨0,Nat.zero_le _,by simp⟩ ⟨by simp,by simp,by simp⟩ (by kernel_rfl) ?_
 rintro ⟨k,hk,hr⟩
 by_cases hlt:k < l.length
 ·have hmod:(k + 1) % l.length < l.length:=Nat.mod_lt _ (by omega)
  have hp:=h _ (nth_mem hlt)
  have hq:PB K M (nxt l k):=h _ (nth_mem hmod)
  have eq2:(encPs l)[(k + 1) % l.length]? = some (encP (nxt l k)):=encPs_get hmod
  have hne:¬ l = []:=by rintro rfl; simp at hlt
  have rm:((k:Int) + 1).tmod (l.length:Int) = (((k + 1) % l.length:Nat):Int):=by
   rw [Int.tmod_eq_emod_of_nonneg (by omega)]; simp
  have hm0:¬ (((k:Int) + 1) % (l.length:Int) < 0):=by have:=Int.emod_nonneg ((k:Int) + 1) (b:=(l.length:Int)) (by omega); omega
  have hm1:(((k:Int) + 1) % (l.length:Int)).toNat = (k + 1) % l.length:=by
   have:((k:Int) + 1) % (l.length:Int) = (((k + 1) % l.length:Nat):Int):=by simp
   rw [this]; rfl
  have hdl:=dl_range l k
  have hd:PC E 164 [.agg (encP (pminus (nxt l k) (nth l k)))] [.i (.int .i64 (dl l k))]:=c164 _ (hq.minus hp) hK (by omega)
  have hb1:(k:Int) + 1 ≤ 140737488355328:=by omega
  have hb2:((k:Int) + 1) * 8 ≤ 140737488355328:=by omega
  have htk:List.take k ((dls l k).map enc1) = (dls l k).map enc1:=List.take_of_length_le (by simp)
  have hst:(dls l (k + 1)).map enc1 = (dls l k).map enc1 ++ [[.int .i64 (dl l k)]]:=by rw [dls_succ]; simp [enc1]
  have hr2:¬ dl l k < 0 → ∀ j,j < k + 1 → 0 ≤ dl l j:=by
   intro hn j hj
   rcases Nat.lt_succ_iff_lt_or_eq.1 hj with h' | rfl
   ·exact hr j h'
   ·omega
  by_cases h0:k = 0
  ·have hI:∀ {α:Type} (a b:α),(if k = 0 then a else b) = a:=fun a b=>if_pos h0
   simp (maxSteps:=999999) (disch:=first|exact {}|omega|simp) [Lw,Lm,Lt,Lo,Ln,allLen,hlt,encPs_get hlt,hne,rm,hm0,hm1,hmod,eq2,hI]
   refine CallK.of (c165 (nxt l k) (nth l k) hq hp hK (by omega)) (by first | exact .inl rfl | exact .inr (by simp)) (by simp) ?_
   simp (maxSteps:=999999) (disch:=first|exact {}|omega|simp) [Lw,Lm,Lt,Lo,Ln,allLen]
   refine CallK.of (hd) (by first | exact .inl rfl | exact .inr (by simp)) (by simp) ?_
   simp (maxSteps:=999999) (disch:=first|exact {}|omega|simp) [Lw,Lm,Lt,Lo,Ln,allLen]
   (first | refine Gd.dec (fun h4=>?_) (fun h4=>?_) | refine Gd.intro (fun h4=>?_) (fun h4=>?_)) <;> simp (maxSteps:=999999) (disch:=first|exact {}|omega|simp) [Lw,Lm,Lt,Lo,Ln,allLen,h4]
   ·simp (maxSteps:=999999) (disch:=first|exact {}|omega|simp) [Lw,Lm,Lt,Lo,Ln,allLen,sides_no hlt h4]
   ·subst h0
    (refine ⟨⟨0 + 1,by omega,hr2 h4⟩,by (simp; try omega), ?_⟩; constructor <;> (simp (maxSteps:=999999) (disch:=first|exact {}|omega|simp) [Lw,Lm,Lt,Lo,Ln,allLen,dls,enc1]) <;> (try omega))
  ·simp (maxSteps:=999999) (disch:=first|exact {}|omega|simp) [Lw,Lm,Lt,Lo,Ln,allLen,hlt,encPs_get hlt,hne,rm,hm0,hm1,hmod,eq2,h0]
   refine CallK.of (c165 (nxt l k) (nth l k) hq hp hK (by omega)) (by first | exact .inl rfl | exact .inr (by simp)) (by simp) ?_
   simp (maxSteps:=999999) (disch:=first|exact {}|omega|simp) [Lw,Lm,Lt,Lo,Ln,allLen]
   refine CallK.of (hd) (by first | exact .inl rfl | exact .inr (by simp)) (by simp) ?_
   simp (maxSteps:=999999) (disch:=first|exact {}|omega|simp) [Lw,Lm,Lt,Lo,Ln,allLen]
   (first | refine Gd.dec (fun h4=>?_) (fun h4=>?_) | refine Gd.intro (fun h4=>?_) (fun h4=>?_)) <;> simp (maxSteps:=999999) (disch:=first|exact {}|omega|simp) [Lw,Lm,Lt,Lo,Ln,allLen,h4]
   ·simp (maxSteps:=999999) (disch:=first|exact {}|omega|simp) [Lw,Lm,Lt,Lo,Ln,allLen,sides_no hlt h4]
   ·(refine ⟨⟨k + 1,by omega,hr2 h4⟩,by (simp; try omega), ?_⟩; constructor <;> (simp (maxSteps:=999999) (disch:=first|exact {}|omega|simp) [Lw,Lm,Lt,Lo,Ln,allLen,hst,htk]) <;> (try omega))
 ·obtain rfl:k = l.length:=by omega
  have hy:=sides_yes hr
  have htk:List.take l.length ((dls l l.length).map enc1) = (dls l l.length).map enc1:=List.take_of_length_le (by simp)
  by_cases h0:l = []
  ·subst h0; simp (maxSteps:=999999) (disch:=first|exact {}|omega|simp) [Lw,Lm,Lt,Lo,Ln,allLen,hy,dls]
  ·have h0':¬ l.length = 0:=by simpa using h0
   simp (maxSteps:=999999) (disch:=first|exact {}|omega|simp) [Lw,Lm,Lt,Lo,Ln,allLen,h0,h0',hy,htk]
end Go.Vai
namespace Go.Vai
def okP (l:List Pt) (j:Nat):Bool:=vP (nth l j) && (decide (j = 0) || decide (pcmp (nth l 0) (nth l j) < 0))
def turnS (l:List Pt) (k:Nat):Int:=(dl l ((k + 1) % l.length) - dl l k) % 16
def sumT (l:List Pt):Nat → Int
 | 0=>0
 | k + 1=>sumT l k + turnS l k
theorem sumT_range (l:List Pt):∀ k,0 ≤ sumT l k ∧ sumT l k ≤ 15 * k
 | 0=>by simp [sumT]
 | k + 1=>by have:=sumT_range l k; simp only [sumT,turnS]; omega
def ptsS (l:List Pt):Bool:=(List.range l.length).all (okP l)
def turnsS (l:List Pt):Bool:=(List.range l.length).all fun k=>inB (turnS l k) 1 7
def polS (l:List Pt):Bool:=inB l.length 3 16 && ptsS l && sidesOk l && turnsS l && decide (sumT l l.length = 16)
theorem all_no {f:Nat → Bool} {n k:Nat} (hk:k < n) (h:f k = false):(List.range n).all f = false:=by
 rw [← Bool.not_eq_true]; intro hr
 simp only [List.all_eq_true,List.mem_range] at hr
 rw [hr k hk] at h; simp at h
theorem all_yes {f:Nat → Bool} {n:Nat} (h:∀ j,j < n → f j = true):(List.range n).all f = true:=by
 simp only [List.all_eq_true,List.mem_range]; exact h
theorem ptsS_all {l:List Pt} (h:∀ j,j < l.length → okP l j = true):∀ p ∈ l,PB 10 134217728 p:=by
 intro p hp
 obtain ⟨j,hj,rfl⟩:=List.getElem_of_mem hp
 have:=h j hj
 simp only [okP,Bool.and_eq_true] at this
 rw [nth_eq hj] at this
 exact vP_bound this.1
theorem dls_get {l:List Pt} {n k:Nat} (h:k < n):((dls l n).map enc1)[k]? = some [.int .i64 (dl l k)]:=by
 simp [dls,h,enc1]
theorem c122 (l:List Pt) (hl:(l.length:Int) ≤ 1048576):PC E 122 [.i (.sl (encPs l))] [.i (.bool (polS l))]:=by
 refine PC_start hE Proofs.Tryz.func122 rfl rfl Proofs.Tryz.ntmps122 (by kernel_rfl) (by kernel_rfl) (by simp) ?_
 simp (maxSteps:=999999) (disch:=first|exact {}|omega|simp) [Lw,Lm,Lt,Lo,Ln,allLen]
 (first | refine Gd.dec (fun h3=>?_) (fun h3=>?_) | refine Gd.intro (fun h3=>?_) (fun h3=>?_)) <;> simp (maxSteps:=999999) (disch:=first|exact {}|omega|simp) [Lw,Lm,Lt,Lo,Ln,allLen,h3]
 ·have:polS l = false:=by unfold polS inB; rw [show decide (3 ≤ (l.length:Int)) = false by simp; omega]; simp
  rw [this]
 (first | refine Gd.dec (fun h16=>?_) (fun h16=>?_) | refine Gd.intro (fun h16=>?_) (fun h16=>?_)) <;> simp (maxSteps:=999999) (disch:=first|exact {}|omega|simp) [Lw,Lm,Lt,Lo,Ln,allLen,h16]
 ·have:polS l = false:=by unfold polS inB; rw [show decide ((l.length:Int) ≤ 16) = false by simp; omega]; simp
  rw [this]
 have hin:inB l.length 3 16 = true:=by unfold inB; simp; omega
 refine XL.by hE (ι:={ k:Nat // k ≤ l.length ∧ ∀ j,j < k → okP l j = true }) (fun k=>⟨[(0,.i (.sl (encPs l))),(3,.i (.int .i64 l.length)),(4,.i (.int .i64 k.1))],[]⟩)
  (fun k=>l.length - k.1) ⟨0,Nat.zero_le _,by simp⟩ ⟨by simp,by simp,by simp⟩ (by kernel_rfl) ?_
 rintro ⟨k,hk,hr⟩
 by_cases hlt:k < l.length
 ·have hlp:0 < l.length:=by omega
  have hno:okP l k = false → polS l = false:=fun hh=>by unfold polS ptsS; rw [all_no hlt hh]; simp
  simp (maxSteps:=999999) (disch:=first|exact {}|omega|simp) [Lw,Lm,Lt,Lo,Ln,allLen,hlt,encPs_get hlt]
  refine CallK.of (c108 (nth l k)) (by first | exact .inl rfl | exact .inr (by simp)) (by simp) ?_
  simp (maxSteps:=999999) (disch:=first|exact {}|omega|simp) [Lw,Lm,Lt,Lo,Ln,allLen]
  (first | refine Gd.dec (fun h4=>?_) (fun h4=>?_) | refine Gd.intro (fun h4=>?_) (fun h4=>?_)) <;> simp (maxSteps:=999999) (disch:=first|exact {}|omega|simp) [Lw,Lm,Lt,Lo,Ln,allLen,h4]
  ·by_cases h0:k = 0
   ·subst h0
    simp (maxSteps:=999999) (disch:=first|exact {}|omega|simp) [Lw,Lm,Lt,Lo,Ln,allLen]
    (refine ⟨⟨0 + 1,by omega,stepAll hr (by simp [okP,h4])⟩,by (simp; try omega), ?_⟩; constructor <;> (simp (maxSteps:=999999) (disch:=first|exact {}|omega|simp) [Lw,Lm,Lt,Lo,Ln,allLen]) <;> (try omega))
   ·have h00:0 < k:=by omega
    have hv0:vP (nth l 0) = true:=by have:=hr 0 h00; simp only [okP,Bool.and_eq_true] at this; exact this.1
    simp (maxSteps:=999999) (disch:=first|exact {}|omega|simp) [Lw,Lm,Lt,Lo,Ln,allLen,hlt,h00,hlp,encPs_get hlt,encPs_get hlp]
    refine CallK.of (c169 (nth l 0) (nth l k) (vP_bound hv0) (vP_bound h4) (by decide) (by decide)) (by first | exact .inl rfl | exact .inr (by simp)) (by simp) ?_
    simp (maxSteps:=999999) (disch:=first|exact {}|omega|simp) [Lw,Lm,Lt,Lo,Ln,allLen]
    (first | refine Gd.dec (fun h5=>?_) (fun h5=>?_) | refine Gd.intro (fun h5=>?_) (fun h5=>?_)) <;> simp (maxSteps:=999999) (disch:=first|exact {}|omega|simp) [Lw,Lm,Lt,Lo,Ln,allLen,h5]
    ·rw [hno (by simp [okP,h0]; omega)]
    ·(refine ⟨⟨k + 1,by omega,stepAll hr (by simp [okP,h4]; omega)⟩,by (simp; try omega), ?_⟩; constructor <;> (simp (maxSteps:=999999) (disch:=first|exact {}|omega|simp) [Lw,Lm,Lt,Lo,Ln,allLen]) <;> (try omega))
  ·rw [hno (by simp [okP,h4])]
 ·obtain rfl:k = l.length:=by omega
  have hpp:=ptsS_all hr
  have hps:ptsS l = true:=all_yes hr
  simp (maxSteps:=999999) (disch:=first|exact {}|omega|simp) [Lw,Lm,Lt,Lo,Ln,allLen]
  refine CallK.of ((c211 l hl).imm) (by first | exact .inl rfl | exact .inr (by simp)) (by simp) ?_
  simp (maxSteps:=999999) (disch:=first|exact {}|omega|simp) [Lw,Lm,Lt,Lo,Ln,allLen]
  refine CallK.of (c212 l hpp (by decide) (by decide) hl) (by first | exact .inl rfl | exact .inr (by simp)) (by simp) ?_
  simp (maxSteps:=999999) (disch:=first|exact {}|omega|simp) [Lw,Lm,Lt,Lo,Ln,allLen]
  (first | refine Gd.dec (fun h6=>?_) (fun h6=>?_) | refine Gd.intro (fun h6=>?_) (fun h6=>?_)) <;> simp (maxSteps:=999999) (disch:=first|exact {}|omega|simp) [Lw,Lm,Lt,Lo,Ln,allLen,h6]
  rotate_left
  ·have:polS l = false:=by unfold polS; rw [h6]; simp
   rw [this]
  have htd:List.take l.length (List.map enc1 (dls l l.length)) = List.map enc1 (dls l l.length):=List.take_of_length_le (by simp)
  refine XL.by hE (ι:={ k:Nat // k ≤ l.length ∧ ∀ j,j < k → inB (turnS l j) 1 7 = true }) (fun k=>⟨[(3,.i (.int .i64 l.length)),(5,.i (.sl ((dls l l.length).map enc1))),(7,.i (.int .i64 (sumT l k.1))),(8,.i (.int .i64 k.1))],[]⟩)
   (fun k=>l.length - k.1) ⟨0,Nat.zero_le _,by simp⟩ ⟨by simp [sumT,h6,htd],by simp,by simp⟩ (by kernel_rfl) ?_
  rintro ⟨k,hk,hr⟩
  have hs:=sumT_range l k
  by_cases hlt:k < l.length
  ·have hmod:(k + 1) % l.length < l.length:=Nat.mod_lt _ (by omega)
   have hne:¬ l = []:=by rintro rfl; simp at hlt
   have rm:((k:Int) + 1).tmod (l.length:Int) = (((k + 1) % l.length:Nat):Int):=by
    rw [Int.tmod_eq_emod_of_nonneg (by omega)]; simp
   have hm0:¬ (((k:Int) + 1) % (l.length:Int) < 0):=by have:=Int.emod_nonneg ((k:Int) + 1) (b:=(l.length:Int)) (by omega); omega
   have hm1:(((k:Int) + 1) % (l.length:Int)).toNat = (k + 1) % l.length:=by
    have:((k:Int) + 1) % (l.length:Int) = (((k + 1) % l.length:Nat):Int):=by simp
    rw [this]; rfl
   have hd1:=dl_range l k
   have hd2:=dl_range l ((k + 1) % l.length)
   have g1:((dls l l.length).map enc1)[k]? = some [.int .i64 (dl l k)]:=dls_get hlt
   have g2:((dls l l.length).map enc1)[(k + 1) % l.length]? = some [.int .i64 (dl l ((k + 1) % l.length))]:=dls_get hmod
   have hs1:sumT l (k + 1) = sumT l k + turnS l k:=rfl
   have hts:(dl l ((k + 1) % l.length) - dl l k) % 16 = turnS l k:=rfl
   have htr:0 ≤ turnS l k ∧ turnS l k ≤ 15:=by unfold turnS; omega
   generalize (dls l l.length).map enc1 = D at *
   simp (maxSteps:=999999) (disch:=first|exact {}|omega|simp) [Lw,Lm,Lt,Lo,Ln,allLen,hlt,hne,rm,hm0,hm1,hmod,g1,g2]
   refine CallK.of (c195 (dl l ((k + 1) % l.length) - dl l k) (by omega) (by omega)) (by first | exact .inl rfl | exact .inr (by simp)) (by simp) ?_
   simp (maxSteps:=999999) (disch:=first|exact {}|omega|simp) [Lw,Lm,Lt,Lo,Ln,allLen,hts]
   refine CallK.of (c64 _ _ _) (by first | exact .inl rfl | exact .inr (by simp)) (by simp) ?_
   simp (maxSteps:=999999) (disch:=first|exact {}|omega|simp) [Lw,Lm,Lt,Lo,Ln,allLen]
   (first | refine Gd.dec (fun h7=>?_) (fun h7=>?_) | refine Gd.intro (fun h7=>?_) (fun h7=>?_)) <;> simp (maxSteps:=999999) (disch:=first|exact {}|omega|simp) [Lw,Lm,Lt,Lo,Ln,allLen,h7]
   ·(refine ⟨⟨k + 1,by omega,stepAll hr h7⟩,by (simp; try omega), ?_⟩; constructor <;> (simp (maxSteps:=999999) (disch:=first|exact {}|omega|simp) [Lw,Lm,Lt,Lo,Ln,allLen,hs1]) <;> (try omega))
   ·have:polS l = false:=by unfold polS turnsS; rw [all_no (f:=fun k=>inB (turnS l k) 1 7) hlt h7]; simp
    rw [this]
  ·obtain rfl:k = l.length:=by omega
   have ht:turnsS l = true:=all_yes hr
   simp (maxSteps:=999999) (disch:=first|exact {}|omega|simp) [Lw,Lm,Lt,Lo,Ln,allLen,polS,hin,hps,h6,ht]
end Go.Vai
