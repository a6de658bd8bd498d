/- Texts of this claim: Zq6, Zq7, Zq9, Zq10, Zq11. -/
import Derived.Test.YtiipeibaiphmpaaGreatDoorTb42
set_option linter.unusedVariables false
set_option linter.unusedSimpArgs false
set_option maxHeartbeats 4000000
namespace Go.Vai
def cmpI (x y:Int):Int:=if x < y then -1 else if y < x then 1 else 0
theorem c198 (x:Int):PC E 198 [.i (.int .i64 x)] [.i (.bool false)]:=by
 refine zP hE Proofs.Tryz.func198 Proofs.Tryz.ntmps198 rfl rfl ?_
 simp (maxSteps:=999999) (disch:=first|exact {}|omega|simp) [zS]
theorem c113 (x y:Int):PC E 113 [.i (.int .i64 x),.i (.int .i64 y)] [.i (.int .i64 (cmpI x y))]:=by
 refine zP hE Proofs.Tryz.func113 Proofs.Tryz.ntmps113 rfl rfl ?_
 simp (maxSteps:=999999) (disch:=first|exact {}|omega|simp) [zS]
 refine zC (c198 x) ?_
 simp (maxSteps:=999999) (disch:=first|exact {}|omega|simp) [zS]
 refine zC (c198 y) ?_
 simp (maxSteps:=999999) (disch:=first|exact {}|omega|simp) [zS]
 unfold cmpI
 (first | refine Gd.dec (fun h1=>?_) (fun h1=>?_) | refine Gd.intro (fun h1=>?_) (fun h1=>?_)) <;> simp (maxSteps:=999999) (disch:=first|exact {}|omega|simp) [zS,h1]
 (first | refine Gd.dec (fun h2=>?_) (fun h2=>?_) | refine Gd.intro (fun h2=>?_) (fun h2=>?_)) <;> simp (maxSteps:=999999) (disch:=first|exact {}|omega|simp) [zS,h2]
theorem c168 (x y:Int):PC E 168 [.i (.sl [[.int .i64 x],[.int .i64 y]])] [.i (.int .i64 (if x ≠ 0 then x else y))]:=by
 refine zP hE Proofs.Tryz.func168 Proofs.Tryz.ntmps168 rfl rfl ?_
 simp (maxSteps:=999999) (disch:=first|exact {}|omega|simp) [zS]
 refine XL.by hE (ι:={ k:Nat // k ≤ 2 ∧ (0 < k → x = 0) ∧ (1 < k → y = 0) }) (fun k=>⟨[(3,.i (.int .i64 0)),(6,.i (.sl [[.int .i64 x],[.int .i64 y]])),(7,.i (.int .i64 2)),(8,.i (.int .i64 k.1))],[]⟩)
  (fun k=>2 - k.1) ⟨0,by omega,by omega,by omega⟩ ⟨by simp,by simp,by simp⟩ (by kernel_rfl) ?_
 rintro ⟨k,hk,h1,h2⟩
 obtain rfl | rfl | rfl:k = 0 ∨ k = 1 ∨ k = 2:=by omega
 ·simp (maxSteps:=999999) (disch:=first|exact {}|omega|simp) [zS]
  (first | refine Gd.dec (fun h3=>?_) (fun h3=>?_) | refine Gd.intro (fun h3=>?_) (fun h3=>?_)) <;> simp (maxSteps:=999999) (disch:=first|exact {}|omega|simp) [zS,h3]
  (refine ⟨⟨1,by omega,by omega,by omega⟩,by (simp; try omega), ?_⟩; constructor <;> (simp (maxSteps:=999999) (disch:=first|exact {}|omega|simp) [zS]) <;> (try omega))
 ·have:=h1 (by omega)
  subst this
  simp (maxSteps:=999999) (disch:=first|exact {}|omega|simp) [zS]
  (first | refine Gd.dec (fun h3=>?_) (fun h3=>?_) | refine Gd.intro (fun h3=>?_) (fun h3=>?_)) <;> simp (maxSteps:=999999) (disch:=first|exact {}|omega|simp) [zS,h3]
  (refine ⟨⟨2,by omega,by omega,by omega⟩,by (simp; try omega), ?_⟩; constructor <;> (simp (maxSteps:=999999) (disch:=first|exact {}|omega|simp) [zS]) <;> (try omega))
 ·have e1:=h1 (by omega)
  have e2:=h2 (by omega)
  subst e1 e2
  simp (maxSteps:=999999) (disch:=first|exact {}|omega|simp) [zS]
def okAt (ps:List Pt) (i:Nat):Bool:=vP (nth ps i) && (decide (i = 0) || decide (pcmp (nth ps (i - 1)) (nth ps i) < 0))
def ptsOk (ps:List Pt):Bool:=(List.range ps.length).all (okAt ps)
def arP (ps:List Pt):Bool:=ptsOk ps && decide (ps.length ≤ 40)
theorem ptsOk_no {ps:List Pt} {k:Nat} (hk:k < ps.length) (h:okAt ps k = false):ptsOk ps = false:=by
 unfold ptsOk
 rw [List.all_eq_false]
 exact ⟨k,List.mem_range.2 hk,by rw [h]; simp⟩
theorem ptsOk_yes {ps:List Pt} (h:∀ i,i < ps.length → okAt ps i = true):ptsOk ps = true:=by
 unfold ptsOk
 rw [List.all_eq_true]
 exact fun i hi=>h i (List.mem_range.1 hi)
theorem c101 (ps:List Pt) (cs:List Cr) (h:(ps.length:Int) ≤ 1048576):PC E 101 [.agg (encPa ps cs)] [.i (.bool (arP ps))]:=by
 refine zP hE Proofs.Tryz.func101 Proofs.Tryz.ntmps101 rfl rfl ?_
 simp (maxSteps:=999999) (disch:=first|exact {}|omega|simp) [zS,encPa]
 refine XL.by hE (ι:={ k:Nat // k ≤ ps.length ∧ ∀ i,i < k → okAt ps i = true }) (fun k=>⟨[(1,.ptr 1 0 0),(6,.i (.sl (encPs ps))),(7,.i (.int .i64 ps.length)),(8,.i (.int .i64 k.1))],[(1,⟨2,[encPa ps cs]⟩)]⟩)
  (fun k=>ps.length - k.1) ⟨0,Nat.zero_le _,fun i hi=>by omega⟩ ⟨by simp,by simp [encPa],by simp⟩ (by kernel_rfl) ?_
 rintro ⟨k,hk,hall⟩
 by_cases hlt:k < ps.length
 ·have hg:=encPs_get hlt
  simp (maxSteps:=999999) (disch:=first|exact {}|omega|simp) [zS,hlt,hg,encPa]
  refine zC (c148 (nth ps k)) ?_
  cases hv:vP (nth ps k)
  ·have:ptsOk ps = false:=ptsOk_no hlt (by unfold okAt; rw [hv]; rfl)
   simp (maxSteps:=999999) (disch:=first|exact {}|omega|simp) [zS,arP,this]
  ·simp (maxSteps:=999999) (disch:=first|exact {}|omega|simp) [zS]
   by_cases h0:0 < k
   ·have hg1:=encPs_get (show k - 1 < ps.length by omega)
    have hv1:vP (nth ps (k - 1)) = true:=by
     have:=hall (k - 1) (by omega)
     unfold okAt at this
     rw [Bool.and_eq_true] at this
     exact this.1
    have e1:((k:Int) - 1).toNat = k - 1:=by omega
    have e2:¬ (k:Int) - 1 < 0:=by omega
    have hl1:k - 1 < ps.length:=by omega
    simp (maxSteps:=999999) (disch:=first|exact {}|omega|simp) [zS,h0,hg1,e1,e2,hl1]
    refine zC (c79 (nth ps (k - 1)) (nth ps k) (vP_bound hv1) (vP_bound hv) (by decide) (by decide)) ?_
    simp (maxSteps:=999999) (disch:=first|exact {}|omega|simp) [zS]
    (first | refine Gd.dec (fun h2=>?_) (fun h2=>?_) | refine Gd.intro (fun h2=>?_) (fun h2=>?_)) <;> simp (maxSteps:=999999) (disch:=first|exact {}|omega|simp) [zS,h2]
    ·have:ptsOk ps = false:=ptsOk_no hlt (by unfold okAt; rw [hv,decide_eq_false (by omega),decide_eq_false (by omega)]; rfl)
     simp (maxSteps:=999999) (disch:=first|exact {}|omega|simp) [zS,arP,this]
    ·have hnew:okAt ps k = true:=by unfold okAt; rw [hv,decide_eq_true (p:=pcmp _ _ < 0) (by omega)]; simp
     (refine ⟨⟨k + 1,by omega,fun i hi=>by
      by_cases e:i = k
      ·subst e; exact hnew
      ·exact hall i (by omega)⟩,by (simp; try omega), ?_⟩; constructor <;> (simp (maxSteps:=999999) (disch:=first|exact {}|omega|simp) [zS,encPa]) <;> (try omega))
   ·obtain rfl:k = 0:=by omega
    simp (maxSteps:=999999) (disch:=first|exact {}|omega|simp) [zS]
    have hnew:okAt ps 0 = true:=by unfold okAt; rw [hv]; rfl
    (refine ⟨⟨1,by omega,fun i hi=>by
     have e:i = 0:=by omega
     rw [e]; exact hnew⟩,by (simp; try omega), ?_⟩; constructor <;> (simp (maxSteps:=999999) (disch:=first|exact {}|omega|simp) [zS,encPa]) <;> (try omega))
 ·obtain rfl:k = ps.length:=by omega
  have:=ptsOk_yes hall
  simp (maxSteps:=999999) (disch:=first|exact {}|omega|simp) [zS,arP,this,encPa]
  omega
end Go.Vai
set_option maxRecDepth 20000
namespace Go.Vai
def lexB (p c:Cr):Bool:=decide (p.a < c.a) || (decide (p.a = c.a) && decide (p.b < c.b))
def getK (cs:List Cr) (i:Nat):Cr:=cs.getD i ⟨0,0,0⟩
def numB (n:Nat) (c:Cr):Bool:=inB c.a 0 ((n:Int) - 1) && (inB c.b (c.a + 1) ((n:Int) - 1) && inB c.k 1 4)
def dirC (ps:List Pt) (c:Cr):Int:=dirR (pminus (pI ps c.b) (pI ps c.a))
def crAt (ps:List Pt) (cs:List Cr) (i:Nat):Bool:=numB ps.length (getK cs i) && (decide (0 ≤ dirC ps (getK cs i)) && (decide (i = 0) || lexB (getK cs (i - 1)) (getK cs i)))
def crsOk (ps:List Pt) (cs:List Cr):Bool:=(List.range cs.length).all (crAt ps cs)
def arC (ps:List Pt) (cs:List Cr):Bool:=crsOk ps cs && decide (cs.length ≤ 70)
theorem num_cin {n:Nat} {c:Cr} (h:numB n c = true):Cin n c:=by
 unfold numB at h
 simp only [Bool.and_eq_true,inB_iff] at h
 exact ⟨h.1.1,by omega,by omega⟩
theorem crsOk_no {ps:List Pt} {cs:List Cr} {k:Nat} (hk:k < cs.length) (h:crAt ps cs k = false):crsOk ps cs = false:=by
 unfold crsOk
 rw [List.all_eq_false]
 exact ⟨k,List.mem_range.2 hk,by rw [h]; simp⟩
theorem crsOk_yes {ps:List Pt} {cs:List Cr} (h:∀ i,i < cs.length → crAt ps cs i = true):crsOk ps cs = true:=by
 unfold crsOk
 rw [List.all_eq_true]
 exact fun i hi=>h i (List.mem_range.1 hi)
theorem lex_or (p c:Cr):(0 ≤ (if cmpI p.a c.a = 0 then cmpI p.b c.b else cmpI p.a c.a)) ↔ lexB p c = false:=by
 unfold lexB cmpI
 rw [Bool.or_eq_false_iff,Bool.and_eq_false_iff]
 simp only [decide_eq_false_iff_not]
 split <;> (try split) <;> (try split) <;> (try split) <;> omega
theorem getK_get {cs:List Cr} {k:Nat} (h:k < cs.length):(cs.map encK)[k]? = some (encK (getK cs k)) ∧ getK cs k = cs[k]:=by
 unfold getK; simp [h]
theorem c102 (ps:List Pt) (cs:List Cr) (hv:∀ p ∈ ps,PV p) (h:(ps.length:Int) ≤ 1048576) (hc:(cs.length:Int) ≤ 1048576) :
  PC E 102 [.agg (encPa ps cs)] [.i (.bool (arC ps cs))]:=by
 refine zP hE Proofs.Tryz.func102 Proofs.Tryz.ntmps102 rfl rfl ?_
 simp (maxSteps:=999999) (disch:=first|exact {}|omega|simp) [zS,encPa]
 refine zC (c110 ps) ?_
 simp (maxSteps:=999999) (disch:=first|exact {}|omega|simp) [zS]
 refine XL.by hE (ι:={ k:Nat // k ≤ cs.length ∧ ∀ i,i < k → crAt ps cs i = true }) (fun k=>⟨[(1,.ptr 1 0 0),(3,.i (.int .i64 ps.length)),(10,.i (.sl (cs.map encK))),(11,.i (.int .i64 cs.length)),(12,.i (.int .i64 k.1))],[(1,⟨2,[encPa ps cs]⟩)]⟩)
  (fun k=>cs.length - k.1) ⟨0,Nat.zero_le _,fun i hi=>by omega⟩ ⟨by simp,by simp [encPa],by simp⟩ (by kernel_rfl) ?_
 rintro ⟨k,hk,hall⟩
 by_cases hlt:k < cs.length
 ·obtain ⟨hg,he⟩:=getK_get hlt
  have hcr:crAt ps cs k = (numB ps.length (getK cs k) && (decide (0 ≤ dirC ps (getK cs k)) && (decide (k = 0) || lexB (getK cs (k - 1)) (getK cs k)))):=rfl
  clear he
  generalize getK cs k = c at *
  simp (maxSteps:=999999) (disch:=first|exact {}|omega|simp) [zS,hlt,hg,encPa,encK]
  refine zC (c109 c.a 0 ((ps.length:Int) - 1)) ?_
  cases h1:inB c.a 0 ((ps.length:Int) - 1)
  ·have:crsOk ps cs = false:=crsOk_no hlt (by rw [hcr]; unfold numB; rw [h1]; rfl)
   simp (maxSteps:=999999) (disch:=first|exact {}|omega|simp) [zS,arC,this]
  have b1:=(inB_iff ..).1 h1
  simp (maxSteps:=999999) (disch:=first|exact {}|omega|simp) [zS]
  refine zC (c109 c.b (c.a + 1) ((ps.length:Int) - 1)) ?_
  cases h2:inB c.b (c.a + 1) ((ps.length:Int) - 1)
  ·have:crsOk ps cs = false:=crsOk_no hlt (by rw [hcr]; unfold numB; rw [h1,h2]; rfl)
   simp (maxSteps:=999999) (disch:=first|exact {}|omega|simp) [zS,arC,this]
  have b2:=(inB_iff ..).1 h2
  simp (maxSteps:=999999) (disch:=first|exact {}|omega|simp) [zS]
  refine zC (c109 c.k 1 4) ?_
  cases h3:inB c.k 1 4
  ·have:crsOk ps cs = false:=crsOk_no hlt (by rw [hcr]; unfold numB; rw [h1,h2,h3]; rfl)
   simp (maxSteps:=999999) (disch:=first|exact {}|omega|simp) [zS,arC,this]
  have hnum:numB ps.length c = true:=by unfold numB; rw [h1,h2,h3]; rfl
  have hcin:=num_cin hnum
  have A:=pI_pv hv (i:=c.a) hcin.a0 (by have:=hcin.ab; have:=hcin.bn; omega)
  have B:=pI_pv hv (i:=c.b) (by have:=hcin.a0; have:=hcin.ab; omega) hcin.bn
  have f1:=c105 ps cs c hcin.a0 (by have:=hcin.ab; have:=hcin.bn; omega)
  have f2:=c106 ps cs c (by have:=hcin.a0; have:=hcin.ab; omega) hcin.bn
  have fd:=c141 (pI ps c.a) (pI ps c.b) B A (by decide) (by decide)
  change PC E _ _ [.agg (encP (pI ps c.a))] at f1
  change PC E _ _ [.agg (encP (pI ps c.b))] at f2
  change PC E _ _ [.i (.int .i64 (dirC ps c))] at fd
  generalize dirC ps c = d at *
  generalize pI ps c.a = pa at *
  generalize pI ps c.b = pb at *
  simp (maxSteps:=999999) (disch:=first|exact {}|omega|simp) [zS]
  refine zC (f1) ?_
  simp (maxSteps:=999999) (disch:=first|exact {}|omega|simp) [zS]
  refine zC (f2) ?_
  simp (maxSteps:=999999) (disch:=first|exact {}|omega|simp) [zS]
  refine zC (fd) ?_
  simp (maxSteps:=999999) (disch:=first|exact {}|omega|simp) [zS]
  (first | refine Gd.dec (fun h4=>?_) (fun h4=>?_) | refine Gd.intro (fun h4=>?_) (fun h4=>?_)) <;> simp (maxSteps:=999999) (disch:=first|exact {}|omega|simp) [zS,h4]
  ·have:crsOk ps cs = false:=crsOk_no hlt (by rw [hcr,hnum,decide_eq_false (by omega)]; rfl)
   simp (maxSteps:=999999) (disch:=first|exact {}|omega|simp) [zS,arC,this]
  by_cases h0:0 < k
  ·obtain ⟨hg1,-⟩:=getK_get (cs:=cs) (k:=k - 1) (by omega)
   have e1:((k:Int) - 1).toNat = k - 1:=by omega
   have e2:¬ (k:Int) - 1 < 0:=by omega
   have hl1:k - 1 < cs.length:=by omega
   have hlx:=lex_or (getK cs (k - 1)) c
   generalize getK cs (k - 1) = p at *
   simp (maxSteps:=999999) (disch:=first|exact {}|omega|simp) [zS,h0,hg1,e1,e2,hl1,encK]
   refine zC (c113 p.a c.a) ?_
   simp (maxSteps:=999999) (disch:=first|exact {}|omega|simp) [zS,h0,hg1,e1,e2,hl1,encK]
   refine zC (c113 p.b c.b) ?_
   simp (maxSteps:=999999) (disch:=first|exact {}|omega|simp) [zS]
   refine zC (c168 (cmpI p.a c.a) (cmpI p.b c.b)) ?_
   simp (maxSteps:=999999) (disch:=first|exact {}|omega|simp) [zS]
   (first | refine Gd.dec (fun h5=>?_) (fun h5=>?_) | refine Gd.intro (fun h5=>?_) (fun h5=>?_)) <;> simp (maxSteps:=999999) (disch:=first|exact {}|omega|simp) [zS,h5]
   ·have:crsOk ps cs = false:=crsOk_no hlt (by rw [hcr,hlx.1 h5,decide_eq_false (p:=k = 0) (by omega)]; simp)
    simp (maxSteps:=999999) (disch:=first|exact {}|omega|simp) [zS,arC,this]
   ·have h6:lexB p c = true:=by
     cases hl:lexB p c
     ·exact absurd (hlx.2 hl) h5
     ·rfl
    have hnew:crAt ps cs k = true:=by rw [hcr,hnum,h6,decide_eq_true (p:=0 ≤ d) (by omega)]; simp
    (refine ⟨⟨k + 1,by omega,fun i hi=>by
     by_cases e:i = k
     ·subst e; exact hnew
     ·exact hall i (by omega)⟩,by (simp; try omega), ?_⟩; constructor <;> (simp (maxSteps:=999999) (disch:=first|exact {}|omega|simp) [zS,encPa]) <;> (try omega))
  ·obtain rfl:k = 0:=by omega
   have hnew:crAt ps cs 0 = true:=by rw [hcr,hnum,decide_eq_true (p:=0 ≤ d) (by omega)]; rfl
   simp (maxSteps:=999999) (disch:=first|exact {}|omega|simp) [zS]
   (refine ⟨⟨1,by omega,fun i hi=>by
    have e:i = 0:=by omega
    rw [e]; exact hnew⟩,by (simp; try omega), ?_⟩; constructor <;> (simp (maxSteps:=999999) (disch:=first|exact {}|omega|simp) [zS,encPa]) <;> (try omega))
 ·obtain rfl:k = cs.length:=by omega
  have:=crsOk_yes hall
  simp (maxSteps:=999999) (disch:=first|exact {}|omega|simp) [zS,arC,this,encPa]
  omega
end Go.Vai
set_option maxHeartbeats 8000000
namespace Go.Vai
def crNum (ps:List Pt) (cs:List Cr) (i:Nat):Bool:=numB ps.length (getK cs i) && (decide (i = 0) || lexB (getK cs (i - 1)) (getK cs i))
def nmsOk (ps:List Pt) (cs:List Cr):Bool:=(List.range cs.length).all (crNum ps cs)
def lstB (ps:List Pt) (cs:List Cr):Bool:=(decide (ps.length ≤ 40) && decide (cs.length ≤ 70)) && (ptsOk ps && nmsOk ps cs)
theorem nmsOk_no {ps:List Pt} {cs:List Cr} {k:Nat} (hk:k < cs.length) (h:crNum ps cs k = false):nmsOk ps cs = false:=by
 unfold nmsOk
 rw [List.all_eq_false]
 exact ⟨k,List.mem_range.2 hk,by rw [h]; simp⟩
theorem nmsOk_yes {ps:List Pt} {cs:List Cr} (h:∀ i,i < cs.length → crNum ps cs i = true):nmsOk ps cs = true:=by
 unfold nmsOk
 rw [List.all_eq_true]
 exact fun i hi=>h i (List.mem_range.1 hi)
theorem nmsOk_cin {ps:List Pt} {cs:List Cr} (h:nmsOk ps cs = true):∀ c ∈ cs,Cin ps.length c:=by
 intro c hc
 obtain ⟨i,hi,rfl⟩:=List.getElem_of_mem hc
 unfold nmsOk at h
 rw [List.all_eq_true] at h
 have:=h i (List.mem_range.2 hi)
 unfold crNum at this
 rw [Bool.and_eq_true,(getK_get hi).2] at this
 exact num_cin this.1
def encS (a b:Pt):List IV:=encP a ++ (encP b ++ [.int .i64 (dirR (pminus b a))])
@[simp] theorem encS_len (a b:Pt):(encS a b).length = 13:=rfl
theorem c64 (a b:Pt) (ha:PV a) (hb:PV b):PC E 64 [.agg (encP a),.agg (encP b)] [.agg (encS a b)]:=by
 have m:=hb.minus ha
 refine zP hE Proofs.Tryz.func64 Proofs.Tryz.ntmps64 rfl rfl ?_
 simp (maxSteps:=999999) (disch:=first|exact {}|omega|simp) [zS]
 refine zC (c124 a) ?_
 simp (maxSteps:=999999) (disch:=first|exact {}|omega|simp) [zS]
 refine zC (c124 b) ?_
 simp (maxSteps:=999999) (disch:=first|exact {}|omega|simp) [zS]
 refine zC (c126 b a hb ha (by decide) (by decide)) ?_
 simp (maxSteps:=999999) (disch:=first|exact {}|omega|simp) [zS]
 refine zC (c125 (pminus b a) m (by decide) (by decide)) ?_
 simp (maxSteps:=999999) (disch:=first|exact {}|omega|simp) [zS,encS,encP,encN]
theorem c176 (ps:List Pt) (cs:List Cr) (h:(ps.length:Int) ≤ 1048576) (hc:(cs.length:Int) ≤ 1048576):PC E 176 [.i (.ptr (encPa ps cs))] [.i (.bool (lstB ps cs))]:=by
 refine zP hE Proofs.Tryz.func176 Proofs.Tryz.ntmps176 rfl rfl ?_
 simp (maxSteps:=999999) (disch:=first|exact {}|omega|simp) [zS,encPa]
 (first | refine Gd.dec (fun h1=>?_) (fun h1=>?_) | refine Gd.intro (fun h1=>?_) (fun h1=>?_)) <;> simp (maxSteps:=999999) (disch:=first|exact {}|omega|simp) [zS,h1]
 ·have:lstB ps cs = false:=by unfold lstB; rw [decide_eq_false (p:=ps.length ≤ 40) (by omega)]; rfl
  simp (maxSteps:=999999) (disch:=first|exact {}|omega|simp) [zS,this]
 (first | refine Gd.dec (fun h2=>?_) (fun h2=>?_) | refine Gd.intro (fun h2=>?_) (fun h2=>?_)) <;> simp (maxSteps:=999999) (disch:=first|exact {}|omega|simp) [zS,h2]
 ·have:lstB ps cs = false:=by unfold lstB; rw [decide_eq_false (p:=cs.length ≤ 70) (by omega),Bool.and_false]; rfl
  simp (maxSteps:=999999) (disch:=first|exact {}|omega|simp) [zS,this]
 have hl:lstB ps cs = (ptsOk ps && nmsOk ps cs):=by
  unfold lstB; rw [decide_eq_true (p:=ps.length ≤ 40) (by omega),decide_eq_true (p:=cs.length ≤ 70) (by omega)]; rfl
 rw [hl]
 refine XL.by hE (ι:={ k:Nat // k ≤ ps.length ∧ ∀ i,i < k → okAt ps i = true }) (fun k=>⟨[(0,.i (.ptr (encPa ps cs))),(3,.i (.int .i64 ps.length)),(4,.i (.int .i64 k.1))],[]⟩)
  (fun k=>ps.length - k.1) ⟨0,Nat.zero_le _,fun i hi=>by omega⟩ ⟨by simp [encPa],by simp,by simp⟩ (by kernel_rfl) ?_
 rintro ⟨k,hk,hall⟩
 by_cases hlt:k < ps.length
 ·have hg:=encPs_get hlt
  simp (maxSteps:=999999) (disch:=first|exact {}|omega|simp) [zS,hlt,hg,encPa]
  refine zC (c241 (nth ps k)) ?_
  cases hv:vP (nth ps k)
  ·have:ptsOk ps = false:=ptsOk_no hlt (by unfold okAt; rw [hv]; rfl)
   simp (maxSteps:=999999) (disch:=first|exact {}|omega|simp) [zS,this]
  ·simp (maxSteps:=999999) (disch:=first|exact {}|omega|simp) [zS]
   by_cases h0:0 < k
   ·have hg1:=encPs_get (show k - 1 < ps.length by omega)
    have hv1:vP (nth ps (k - 1)) = true:=by
     have:=hall (k - 1) (by omega)
     unfold okAt at this
     rw [Bool.and_eq_true] at this
     exact this.1
    have e1:((k:Int) - 1).toNat = k - 1:=by omega
    have e2:¬ (k:Int) - 1 < 0:=by omega
    have hl1:k - 1 < ps.length:=by omega
    simp (maxSteps:=999999) (disch:=first|exact {}|omega|simp) [zS,h0,hg1,e1,e2,hl1,hlt,hg]
    refine zC (c130 (nth ps (k - 1)) (nth ps k) (vP_bound hv1) (vP_bound hv) (by decide) (by decide)) ?_
    simp (maxSteps:=999999) (disch:=first|exact {}|omega|simp) [zS]
    (first | refine Gd.dec (fun h3=>?_) (fun h3=>?_) | refine Gd.intro (fun h3=>?_) (fun h3=>?_)) <;> simp (maxSteps:=999999) (disch:=first|exact {}|omega|simp) [zS,h3]
    ·have:ptsOk ps = false:=ptsOk_no hlt (by unfold okAt; rw [hv,decide_eq_false (by omega),decide_eq_false (by omega)]; rfl)
     simp (maxSteps:=999999) (disch:=first|exact {}|omega|simp) [zS,this]
    ·have hnew:okAt ps k = true:=by unfold okAt; rw [hv,decide_eq_true (p:=pcmp _ _ < 0) (by omega)]; simp
     (refine ⟨⟨k + 1,by omega,fun i hi=>by
      by_cases e:i = k
      ·subst e; exact hnew
      ·exact hall i (by omega)⟩,by (simp; try omega), ?_⟩; constructor <;> (simp (maxSteps:=999999) (disch:=first|exact {}|omega|simp) [zS,encPa]) <;> (try omega))
   ·obtain rfl:k = 0:=by omega
    have hnew:okAt ps 0 = true:=by unfold okAt; rw [hv]; rfl
    simp (maxSteps:=999999) (disch:=first|exact {}|omega|simp) [zS]
    (refine ⟨⟨1,by omega,fun i hi=>by
     have e:i = 0:=by omega
     rw [e]; exact hnew⟩,by (simp; try omega), ?_⟩; constructor <;> (simp (maxSteps:=999999) (disch:=first|exact {}|omega|simp) [zS,encPa]) <;> (try omega))
 ·obtain rfl:k = ps.length:=by omega
  rw [ptsOk_yes hall]
  simp (maxSteps:=999999) (disch:=first|exact {}|omega|simp) [zS,encPa]
  clear hall hk hlt
  refine XL.by hE (ι:={ k:Nat // k ≤ cs.length ∧ ∀ i,i < k → crNum ps cs i = true }) (fun k=>⟨[(0,.i (.ptr (encPa ps cs))),(3,.i (.int .i64 ps.length)),(5,.i (.int .i64 k.1))],[]⟩)
   (fun k=>cs.length - k.1) ⟨0,Nat.zero_le _,fun i hi=>by omega⟩ ⟨by simp [encPa],by simp,by simp⟩ (by kernel_rfl) ?_
  rintro ⟨k,hk,hall⟩
  by_cases hlt:k < cs.length
  ·obtain ⟨hg,-⟩:=getK_get hlt
   have hcr:crNum ps cs k = (numB ps.length (getK cs k) && (decide (k = 0) || lexB (getK cs (k - 1)) (getK cs k))):=rfl
   generalize getK cs k = c at *
   simp (maxSteps:=999999) (disch:=first|exact {}|omega|simp) [zS,hlt,hg,encPa,encK]
   refine zC (c45 c.a 0 ((ps.length:Int) - 1)) ?_
   cases g1:inB c.a 0 ((ps.length:Int) - 1)
   ·have:nmsOk ps cs = false:=nmsOk_no hlt (by rw [hcr]; unfold numB; rw [g1]; rfl)
    simp (maxSteps:=999999) (disch:=first|exact {}|omega|simp) [zS,this]
   have b1:=(inB_iff ..).1 g1
   simp (maxSteps:=999999) (disch:=first|exact {}|omega|simp) [zS]
   refine zC (c45 c.b (c.a + 1) ((ps.length:Int) - 1)) ?_
   cases g2:inB c.b (c.a + 1) ((ps.length:Int) - 1)
   ·have:nmsOk ps cs = false:=nmsOk_no hlt (by rw [hcr]; unfold numB; rw [g1,g2]; rfl)
    simp (maxSteps:=999999) (disch:=first|exact {}|omega|simp) [zS,this]
   simp (maxSteps:=999999) (disch:=first|exact {}|omega|simp) [zS]
   refine zC (c45 c.k 1 4) ?_
   cases g3:inB c.k 1 4
   ·have:nmsOk ps cs = false:=nmsOk_no hlt (by rw [hcr]; unfold numB; rw [g1,g2,g3]; rfl)
    simp (maxSteps:=999999) (disch:=first|exact {}|omega|simp) [zS,this]
   have hnum:numB ps.length c = true:=by unfold numB; rw [g1,g2,g3]; rfl
   simp (maxSteps:=999999) (disch:=first|exact {}|omega|simp) [zS]
   by_cases h0:0 < k
   ·obtain ⟨hg1,he1⟩:=getK_get (cs:=cs) (k:=k - 1) (by omega)
    have e1:((k:Int) - 1).toNat = k - 1:=by omega
    have e2:¬ (k:Int) - 1 < 0:=by omega
    have hl1:k - 1 < cs.length:=by omega
    generalize getK cs (k - 1) = p at *
    have bad:lexB p c = false → nmsOk ps cs = false:=fun h=>nmsOk_no hlt (by rw [hcr,h,decide_eq_false (p:=k = 0) (by omega)]; simp)
    have good:lexB p c = true → crNum ps cs k = true:=fun h=>by rw [hcr,hnum,h]; simp
    have next:crNum ps cs k = true → ∀ i,i < k + 1 → crNum ps cs i = true:=fun hnew i hi=>by
     by_cases e:i = k
     ·subst e; exact hnew
     ·exact hall i (by omega)
    simp (maxSteps:=999999) (disch:=first|exact {}|omega|simp) [zS,h0,hg1,e1,e2,hl1,encK]
    (first | refine Gd.dec (fun u1=>?_) (fun u1=>?_) | refine Gd.intro (fun u1=>?_) (fun u1=>?_)) <;> simp (maxSteps:=999999) (disch:=first|exact {}|omega|simp) [zS,u1]
    ·have:=bad (by unfold lexB; rw [decide_eq_false (p:=p.a < c.a) (by omega),decide_eq_false (p:=p.a = c.a) (by omega)]; rfl)
     simp (maxSteps:=999999) (disch:=first|exact {}|omega|simp) [zS,this]
    simp (maxSteps:=999999) (disch:=first|exact {}|omega|simp) [zS,h0,hg1,e1,e2,hl1,hlt,← he1,encK]
    (first | refine Gd.dec (fun u2=>?_) (fun u2=>?_) | refine Gd.intro (fun u2=>?_) (fun u2=>?_)) <;> simp (maxSteps:=999999) (disch:=first|exact {}|omega|simp) [zS,u2]
    ·simp (maxSteps:=999999) (disch:=first|exact {}|omega|simp) [zS,h0,hg1,e1,e2,hl1,hlt,← he1,encK]
     (first | refine Gd.dec (fun u3=>?_) (fun u3=>?_) | refine Gd.intro (fun u3=>?_) (fun u3=>?_)) <;> simp (maxSteps:=999999) (disch:=first|exact {}|omega|simp) [zS,u3]
     ·have:=bad (by unfold lexB; rw [decide_eq_false (p:=p.a < c.a) (by omega),decide_eq_false (p:=p.b < c.b) (by omega)]; simp)
      simp (maxSteps:=999999) (disch:=first|exact {}|omega|simp) [zS,this]
     ·have:=good (by unfold lexB; rw [decide_eq_true (p:=p.a = c.a) (by omega),decide_eq_true (p:=p.b < c.b) (by omega)]; simp)
      (refine ⟨⟨k + 1,by omega,next this⟩,by (simp; try omega), ?_⟩; constructor <;> (simp (maxSteps:=999999) (disch:=first|exact {}|omega|simp) [zS,encPa]) <;> (try omega))
    ·have:=good (by unfold lexB; rw [decide_eq_true (p:=p.a < c.a) (by omega)]; rfl)
     (refine ⟨⟨k + 1,by omega,next this⟩,by (simp; try omega), ?_⟩; constructor <;> (simp (maxSteps:=999999) (disch:=first|exact {}|omega|simp) [zS,encPa]) <;> (try omega))
   ·obtain rfl:k = 0:=by omega
    have hnew:crNum ps cs 0 = true:=by rw [hcr,hnum]; rfl
    simp (maxSteps:=999999) (disch:=first|exact {}|omega|simp) [zS]
    (refine ⟨⟨1,by omega,fun i hi=>by
     have e:i = 0:=by omega
     rw [e]; exact hnew⟩,by (simp; try omega), ?_⟩; constructor <;> (simp (maxSteps:=999999) (disch:=first|exact {}|omega|simp) [zS,encPa]) <;> (try omega))
  ·obtain rfl:k = cs.length:=by omega
   rw [nmsOk_yes hall]
   simp (maxSteps:=999999) (disch:=first|exact {}|omega|simp) [zS,encPa]
def dirsOk (ps:List Pt) (cs:List Cr):Bool:=cs.all fun c=>decide (0 ≤ dirC ps c)
def sgC (ps:List Pt) (c:Cr):List IV:=encS (pI ps c.a) (pI ps c.b)
@[simp] theorem sgC_len (ps:List Pt) (c:Cr):(sgC ps c).length = 13:=rfl
def sgS (l:List Cr):AV:=if l = [] then .esl else .own 52 0 l.length
def sgH (ps:List Pt) (l:List Cr):List (Nat × Obj):=if l = [] then [] else [(52,⟨13,l.map (sgC ps)⟩)]
def segsV (ps:List Pt) (cs:List Cr):List Cr:=if dirsOk ps cs = true then cs else []
theorem c177 (ps:List Pt) (cs:List Cr) (hv:∀ p ∈ ps,PV p) (hcin:∀ c ∈ cs,Cin ps.length c) (hc:(cs.length:Int) ≤ 1048576) :
  PC E 177 [.i (.ptr (encPa ps cs))] [.own 13 ((segsV ps cs).map (sgC ps)),.i (.bool (dirsOk ps cs))]:=by
 refine zP hE Proofs.Tryz.func177 Proofs.Tryz.ntmps177 rfl rfl ?_
 simp (maxSteps:=999999) (disch:=first|exact {}|omega|simp) [zS,encPa]
 refine XL.by hE (ι:={ k:Nat // k ≤ cs.length ∧ ∀ c ∈ cs.take k,0 ≤ dirC ps c }) (fun k=>⟨[(0,.i (.ptr (encPa ps cs))),(4,sgS (cs.take k.1)),(5,.i (.int .i64 k.1))],sgH ps (cs.take k.1)⟩)
  (fun k=>cs.length - k.1) ⟨0,Nat.zero_le _,by simp⟩ ⟨by simp [sgS,encPa],by simp [sgH],by simp [sgS]⟩ (by kernel_rfl) ?_
 rintro ⟨k,hk,hall⟩
 have htl:(cs.take k).length = k:=by simp; omega
 by_cases hlt:k < cs.length
 ·obtain ⟨hg,he⟩:=getK_get hlt
  have hci:=hcin _ (List.getElem_mem hlt)
  rw [← he] at hci
  have hst:cs.take (k + 1) = cs.take k ++ [getK cs k]:=by rw [List.take_add_one]; simp [he,hlt]
  have hno:¬ 0 ≤ dirC ps (getK cs k) → dirsOk ps cs = false:=fun h=>by
   unfold dirsOk
   rw [List.all_eq_false]
   exact ⟨cs[k],List.getElem_mem hlt,by rw [← he]; simpa using h⟩
  have hnx:0 ≤ dirC ps (getK cs k) → ∀ c ∈ cs.take (k + 1),0 ≤ dirC ps c:=fun h c hc=>by
   rw [hst] at hc
   rcases List.mem_append.1 hc with hc | hc
   ·exact hall c hc
   ·obtain rfl:=List.mem_singleton.1 hc; exact h
  clear he
  generalize getK cs k = c at *
  have A:=pI_pv hv (i:=c.a) hci.a0 (by have:=hci.ab; have:=hci.bn; omega)
  have B:=pI_pv hv (i:=c.b) (by have:=hci.a0; have:=hci.ab; omega) hci.bn
  have ga:=encPs_get (l:=ps) (k:=c.a.toNat) (by have:=hci.a0; have:=hci.ab; have:=hci.bn; omega)
  have gb:=encPs_get (l:=ps) (k:=c.b.toNat) (by have:=hci.a0; have:=hci.ab; have:=hci.bn; omega)
  have na:¬ c.a < 0:=by have:=hci.a0; omega
  have nb:¬ c.b < 0:=by have:=hci.a0; have:=hci.ab; omega
  have so:=c64 (pI ps c.a) (pI ps c.b) A B
  have hsg:sgC ps c = encS (pI ps c.a) (pI ps c.b):=rfl
  have hdc:dirC ps c = dirR (pminus (pI ps c.b) (pI ps c.a)):=rfl
  change (encPs ps)[c.a.toNat]? = some (encP (pI ps c.a)) at ga
  change (encPs ps)[c.b.toNat]? = some (encP (pI ps c.b)) at gb
  have hrow:sgC ps c = encP (pI ps c.a) ++ (encP (pI ps c.b) ++ [.int .i64 (dirC ps c)]):=by rw [hsg,hdc]; rfl
  rw [← hsg] at so
  have hs0:dirsOk ps cs = false → segsV ps cs = []:=fun h=>by unfold segsV; rw [h]; rfl
  have hne:cs ≠ []:=by rintro rfl; simp at hlt
  clear hsg hdc
  generalize dirC ps c = d at *
  generalize hpa:pI ps c.a = a at *
  generalize hpb:pI ps c.b = b at *
  have hM:List.take (k + 1) (List.map (sgC ps) cs) = List.take k (List.map (sgC ps) cs) ++ [sgC ps c]:=by
   rw [← List.map_take,← List.map_take,hst,List.map_append]; rfl
  rw [hrow] at hM
  simp only [encP,encN,List.cons_append,List.nil_append] at hM
  rcases Classical.em (cs.take k = []) with h0 | h0
  ·have h00:List.take k (List.map (sgC ps) cs) = []:=by rw [← List.map_take,h0]; rfl
   have hk0:k = 0:=by rw [h0] at htl; simpa using htl.symm
   simp (maxSteps:=999999) (disch:=first|exact {}|omega|simp) [zS,hlt,hg,encPa,encK,ga,gb,na,nb,sgS,sgH,h0]
   refine zC (so) ?_
   rw [hrow]
   simp (maxSteps:=999999) (disch:=first|exact {}|omega|simp) [zS,encP,encN]
   (first | refine Gd.dec (fun u1=>?_) (fun u1=>?_) | refine Gd.intro (fun u1=>?_) (fun u1=>?_)) <;> simp (maxSteps:=999999) (disch:=first|exact {}|omega|simp) [zS,u1]
   ·simp (maxSteps:=999999) (disch:=first|exact {}|omega|simp) [zS,hno (by omega),hs0 (hno (by omega))]
   ·have hnn:=hnx (by omega)
    try (simp (maxSteps:=999999) (disch:=first|exact {}|omega|simp) [zS,most])
    (refine ⟨⟨k + 1,by omega,hnn⟩,by (simp; try omega), ?_⟩; constructor <;> (simp (maxSteps:=999999) (disch:=first|exact {}|omega|simp) [zS,hst,hrow,sgS,sgH,h0,hne,encP,encN,encPa,hM,h00]) <;> (try omega))
  ·simp (maxSteps:=999999) (disch:=first|exact {}|omega|simp) [zS,hlt,hg,encPa,encK,ga,gb,na,nb,sgS,sgH,h0]
   refine zC (so) ?_
   rw [hrow]
   simp (maxSteps:=999999) (disch:=first|exact {}|omega|simp) [zS,encP,encN]
   (first | refine Gd.dec (fun u1=>?_) (fun u1=>?_) | refine Gd.intro (fun u1=>?_) (fun u1=>?_)) <;> simp (maxSteps:=999999) (disch:=first|exact {}|omega|simp) [zS,u1]
   ·simp (maxSteps:=999999) (disch:=first|exact {}|omega|simp) [zS,hno (by omega),hs0 (hno (by omega))]
   ·have hnn:=hnx (by omega)
    have tk:List.take k (List.map (sgC ps) (cs.take k)) = List.map (sgC ps) (cs.take k):=List.take_of_length_le (by simp; omega)
    try (simp (maxSteps:=999999) (disch:=first|exact {}|omega|simp) [zS,most])
    (refine ⟨⟨k + 1,by omega,hnn⟩,by (simp; try omega), ?_⟩; constructor <;> (simp (maxSteps:=999999) (disch:=first|exact {}|omega|simp) [zS,hst,hrow,sgS,sgH,h0,hne,encP,encN,encPa,hM,List.take_take]) <;> (try omega))
 ·obtain rfl:k = cs.length:=by omega
  rw [List.take_length] at *
  have hd:dirsOk ps cs = true:=by
   unfold dirsOk
   rw [List.all_eq_true]
   exact fun c hc=>by simpa using hall c hc
  have hs:segsV ps cs = cs:=by unfold segsV; rw [if_pos hd]
  have tk:List.take cs.length (cs.map (sgC ps)) = cs.map (sgC ps):=List.take_of_length_le (by simp)
  rcases Classical.em (cs = []) with h0 | h0
  ·subst h0
   simp (maxSteps:=999999) (disch:=first|exact {}|omega|simp) [zS,encPa,sgS,sgH,hd,hs]
  ·simp (maxSteps:=999999) (disch:=first|exact {}|omega|simp) [zS,encPa,sgS,sgH,hd,hs,h0,tk]
end Go.Vai
namespace Go.Vai
theorem c243 (c d:Cr):PC E 243 [.agg (encK c),.agg (encK d)] [.i (.bool (shareB c.a c.b d.a d.b))]:=by
 refine zP hE Proofs.Tryz.func243 Proofs.Tryz.ntmps243 rfl rfl ?_
 simp (maxSteps:=999999) (disch:=first|exact {}|omega|simp) [zS,encK,shareB]
 (first | refine Gd.dec (fun h1=>?_) (fun h1=>?_) | refine Gd.intro (fun h1=>?_) (fun h1=>?_)) <;> simp (maxSteps:=999999) (disch:=first|exact {}|omega|simp) [zS,h1]
 (first | refine Gd.dec (fun h2=>?_) (fun h2=>?_) | refine Gd.intro (fun h2=>?_) (fun h2=>?_)) <;> simp (maxSteps:=999999) (disch:=first|exact {}|omega|simp) [zS,h2]
 (first | refine Gd.dec (fun h3=>?_) (fun h3=>?_) | refine Gd.intro (fun h3=>?_) (fun h3=>?_)) <;> simp (maxSteps:=999999) (disch:=first|exact {}|omega|simp) [zS,h3]
theorem take6 (a b:Pt):List.take 6 (encS a b) = encP a:=rfl
theorem drop6 (a b:Pt):List.take 6 (List.drop 6 (encS a b)) = encP b:=rfl
theorem c69 (a b:Pt) (ha:PV a) (hd:0 ≤ dirR (pminus b a)):PC E 69 [.i (.ptr (encS a b))] [.agg (encLi (sideL a b))]:=by
 have h1:=(dirR_range (pminus b a)).2
 have ht:=c135 a (dirR (pminus b a)) ha (by decide) (by decide) (by omega) (by omega)
 have e:encS a b = encP a ++ (encP b ++ [.int .i64 (dirR (pminus b a))]):=rfl
 have es:sideL a b = lat a (dirR (pminus b a) % 8):=rfl
 rw [es,e]
 generalize dirR (pminus b a) = d at *
 refine zP hE Proofs.Tryz.func69 Proofs.Tryz.ntmps69 rfl rfl ?_
 simp (maxSteps:=999999) (disch:=first|exact {}|omega|simp) [zS,encP,encN]
 refine zC (ht) ?_
 simp (maxSteps:=999999) (disch:=first|exact {}|omega|simp) [zS]
theorem nleast_NB {K M:Nat} {a b:Nu} (ha:NB K M a) (hb:NB K M b):NB K M (nleast a b):=by unfold nleast; split <;> assumption
theorem nmost_NB {K M:Nat} {a b:Nu} (ha:NB K M a) (hb:NB K M b):NB K M (nmost a b):=by unfold nmost; split <;> assumption
theorem c242 (a b x y:Pt) (one:Bool) (ha:PV a) (hb:PV b) (hx:PV x) (hy:PV y) (hd:0 ≤ dirR (pminus b a)) (he:0 ≤ dirR (pminus y x)) :
  PC E 242 [.i (.ptr (encS a b)),.i (.ptr (encS x y)),.i (.bool one)] [.i (.bool (meetB a b x y one))]:=by
 have d1:=(dirR_range (pminus b a)).2
 have e1:=(dirR_range (pminus y x)).2
 have l1:=c69 a b ha hd
 have l2:=c69 x y hx he
 have n1:=side_NB (q:=b) ha
 have n2:=side_NB (q:=y) hx
 have k1:=sideL_dir a b
 have k2:=sideL_dir x y
 have s1:∀ p,PV p → PC E 65 [.agg (encLi (sideL a b)),.agg (encP p)] [.i (.int .i64 (sd (sideL a b) p))]:=fun p hp=>c65 (sideL a b) p hp n1 (by decide) (by decide) k1.1 (by omega)
 have s2:∀ p,PV p → PC E 65 [.agg (encLi (sideL x y)),.agg (encP p)] [.i (.int .i64 (sd (sideL x y) p))]:=fun p hp=>c65 (sideL x y) p hp n2 (by decide) (by decide) k2.1 (by omega)
 have hdot:∀ p,PV p → PC E 129 [.i (.int .i64 (dirR (pminus b a))),.agg (encP p)] [.agg (encN (ndot (vec (dirR (pminus b a))) p))]:=fun p hp=>by
  have:=c129 (dirR (pminus b a)) p hp (by decide) (by decide) (by omega) (by omega)
  rwa [Int.emod_eq_of_lt hd (by omega)] at this
 have nd:∀ p,PV p → NB 10 (6 * (1 * 134217728)) (ndot (vec (dirR (pminus b a))) p):=fun p hp=>by
  have:=(vec_PB (d:=dirR (pminus b a)) hd d1).dot hp
  rwa [Nat.zero_add] at this
 have w1:=mul_sd (sd_range (sideL a b) x) (sd_range (sideL a b) y)
 have w2:=mul_sd (sd_range (sideL x y) a) (sd_range (sideL x y) b)
 have ea:encS a b = encP a ++ (encP b ++ [.int .i64 (dirR (pminus b a))]):=rfl
 have ex:encS x y = encP x ++ (encP y ++ [.int .i64 (dirR (pminus y x))]):=rfl
 have hm:meetB a b x y one = if dirR (pminus b a) % 8 ≠ dirR (pminus y x) % 8 then !one && (decide (sd (sideL a b) x * sd (sideL a b) y ≤ 0) && decide (sd (sideL x y) a * sd (sideL x y) b ≤ 0))
   else if sd (sideL a b) x ≠ 0 then false
   else decide (0 < nsign (nsub (nleast (ndot (vec (dirR (pminus b a))) b) (nmost (ndot (vec (dirR (pminus b a))) x) (ndot (vec (dirR (pminus b a))) y))) (nmost (ndot (vec (dirR (pminus b a))) a) (nleast (ndot (vec (dirR (pminus b a))) x) (ndot (vec (dirR (pminus b a))) y))))) ||
    (decide (nsign (nsub (nleast (ndot (vec (dirR (pminus b a))) b) (nmost (ndot (vec (dirR (pminus b a))) x) (ndot (vec (dirR (pminus b a))) y))) (nmost (ndot (vec (dirR (pminus b a))) a) (nleast (ndot (vec (dirR (pminus b a))) x) (ndot (vec (dirR (pminus b a))) y)))) = 0) && !one):=rfl
 rw [hm]
 clear hm
 have t1:(dirR (pminus b a)).tmod 8 = dirR (pminus b a) % 8:=Int.tmod_eq_emod_of_nonneg hd
 have t2:(dirR (pminus y x)).tmod 8 = dirR (pminus y x) % 8:=Int.tmod_eq_emod_of_nonneg he
 refine zP hE Proofs.Tryz.func242 Proofs.Tryz.ntmps242 rfl rfl ?_
 simp (maxSteps:=999999) (disch:=first|exact {}|omega|simp) [zS,ea,ex,encP,encN,t1,t2]
 (first | refine Gd.dec (fun g1=>?_) (fun g1=>?_) | refine Gd.intro (fun g1=>?_) (fun g1=>?_)) <;> simp (maxSteps:=999999) (disch:=first|exact {}|omega|simp) [zS,g1]
 rotate_left
 ·-- not parallel
  refine zC (l1) ?_
  simp (maxSteps:=999999) (disch:=first|exact {}|omega|simp) [zS]
  refine zC (l2) ?_
  simp (maxSteps:=999999) (disch:=first|exact {}|omega|simp) [zS]
  cases one
  rotate_left
  ·simp (maxSteps:=999999) (disch:=first|exact {}|omega|simp) [zS,g1]
  simp (maxSteps:=999999) (disch:=first|exact {}|omega|simp) [zS,g1]
  refine zC (s1 x hx) ?_
  simp (maxSteps:=999999) (disch:=first|exact {}|omega|simp) [zS,encP,encN]
  refine zC (s1 y hy) ?_
  simp (maxSteps:=999999) (disch:=first|exact {}|omega|simp) [zS,w1]
  (first | refine Gd.dec (fun g2=>?_) (fun g2=>?_) | refine Gd.intro (fun g2=>?_) (fun g2=>?_)) <;> simp (maxSteps:=999999) (disch:=first|exact {}|omega|simp) [zS,g2]
  try (simp (maxSteps:=999999) (disch:=first|exact {}|omega|simp) [zS,encP,encN])
  refine zC (s2 a ha) ?_
  simp (maxSteps:=999999) (disch:=first|exact {}|omega|simp) [zS,encP,encN]
  refine zC (s2 b hb) ?_
  simp (maxSteps:=999999) (disch:=first|exact {}|omega|simp) [zS,w2,g1,g2]
 ·-- parallel
  refine zC (l1) ?_
  simp (maxSteps:=999999) (disch:=first|exact {}|omega|simp) [zS,encP,encN]
  refine zC (s1 x hx) ?_
  simp (maxSteps:=999999) (disch:=first|exact {}|omega|simp) [zS,g1]
  (first | refine Gd.dec (fun g2=>?_) (fun g2=>?_) | refine Gd.intro (fun g2=>?_) (fun g2=>?_)) <;> simp (maxSteps:=999999) (disch:=first|exact {}|omega|simp) [zS,g2]
  have na:=nd a ha
  have nb:=nd b hb
  have nx':=nd x hx
  have ny:=nd y hy
  have c1:=hdot a ha
  have c2:=hdot x hx
  have c3:=hdot y hy
  have c4:=hdot b hb
  generalize ndot (vec (dirR (pminus b a))) a = A at *
  generalize ndot (vec (dirR (pminus b a))) b = B at *
  generalize ndot (vec (dirR (pminus b a))) x = X at *
  generalize ndot (vec (dirR (pminus b a))) y = Y at *
  refine zC (c1) ?_
  try (simp (maxSteps:=999999) (disch:=first|exact {}|omega|simp) [zS,encP,encN])
  refine zC (c2) ?_
  try (simp (maxSteps:=999999) (disch:=first|exact {}|omega|simp) [zS,encP,encN])
  refine zC (c3) ?_
  try (simp (maxSteps:=999999) (disch:=first|exact {}|omega|simp) [zS,encP,encN])
  refine zC (c286 X Y nx' ny (by decide) (by decide)) ?_
  try (simp (maxSteps:=999999) (disch:=first|exact {}|omega|simp) [zS,encP,encN])
  refine zC (c285 A (nleast X Y) na (nleast_NB nx' ny) (by decide) (by decide)) ?_
  try (simp (maxSteps:=999999) (disch:=first|exact {}|omega|simp) [zS,encP,encN])
  refine zC (c4) ?_
  try (simp (maxSteps:=999999) (disch:=first|exact {}|omega|simp) [zS,encP,encN])
  refine zC (c2) ?_
  try (simp (maxSteps:=999999) (disch:=first|exact {}|omega|simp) [zS,encP,encN])
  refine zC (c3) ?_
  try (simp (maxSteps:=999999) (disch:=first|exact {}|omega|simp) [zS,encP,encN])
  refine zC (c285 X Y nx' ny (by decide) (by decide)) ?_
  try (simp (maxSteps:=999999) (disch:=first|exact {}|omega|simp) [zS,encP,encN])
  refine zC (c286 B (nmost X Y) nb (nmost_NB nx' ny) (by decide) (by decide)) ?_
  have m1:=nleast_NB nb (nmost_NB nx' ny)
  have m2:=nmost_NB na (nleast_NB nx' ny)
  generalize nleast B (nmost X Y) = H at *
  generalize nmost A (nleast X Y) = L at *
  have ms:=m1.sub m2
  try (simp (maxSteps:=999999) (disch:=first|exact {}|omega|simp) [zS,encP,encN])
  refine zC (c128 H L m1 m2 (by decide) (by decide)) ?_
  try (simp (maxSteps:=999999) (disch:=first|exact {}|omega|simp) [zS])
  refine zC (c127 (nsub H L) (ms.i64 (by decide) (by decide)) (ms.ne (by decide)).1 (ms.ne (by decide)).2) ?_
  simp (maxSteps:=999999) (disch:=first|exact {}|omega|simp) [zS]
  generalize nsign (nsub H L) = r at *
  (first | refine Gd.dec (fun g3=>?_) (fun g3=>?_) | refine Gd.intro (fun g3=>?_) (fun g3=>?_)) <;> simp (maxSteps:=999999) (disch:=first|exact {}|omega|simp) [zS,g3]
  (first | refine Gd.dec (fun g4=>?_) (fun g4=>?_) | refine Gd.intro (fun g4=>?_) (fun g4=>?_)) <;> simp (maxSteps:=999999) (disch:=first|exact {}|omega|simp) [zS,g4]
  all_goals first | (cases one <;> simp [g1,g2,g3,g4]; done) | trace_state
end Go.Vai
namespace Go.Vai
def meetC (ps:List Pt) (c d:Cr):Bool:=meetB (pI ps c.a) (pI ps c.b) (pI ps d.a) (pI ps d.b) (shareB c.a c.b d.a d.b)
theorem ap_meet {ps:List Pt} (hv:∀ p ∈ ps,PV p) {c d:Cr} (hc:Cin ps.length c) (hd:Cin ps.length d) (h1:0 ≤ dirC ps c) (h2:0 ≤ dirC ps d):apC ps c d = !meetC ps c d:=by
 have A:=pI_pv hv (i:=c.a) hc.a0 (by have:=hc.ab; have:=hc.bn; omega)
 have B:=pI_pv hv (i:=c.b) (by have:=hc.a0; have:=hc.ab; omega) hc.bn
 have X:=pI_pv hv (i:=d.a) hd.a0 (by have:=hd.ab; have:=hd.bn; omega)
 have Y:=pI_pv hv (i:=d.b) (by have:=hd.a0; have:=hd.ab; omega) hd.bn
 exact apart_meet A.pk B.pk X.pk Y.pk h1 h2 (fun e=>by rw [e]) (fun e=>by rw [e]) (fun e=>by rw [e]) (fun e=>by rw [e])
theorem planB_no {ps:List Pt} {cs:List Cr} {i k:Nat} (hi:i < cs.length) (hk:k < i) (h:apC ps (getK cs i) (getK cs k) = false):planB ps cs = false:=by
 unfold planB
 rw [List.all_eq_false]
 refine ⟨i,List.mem_range.2 hi,fun hh=>?_⟩
 rw [List.all_eq_true] at hh
 have hm:getK cs k ∈ cs.take i:=by
  rw [(getK_get (cs:=cs) (k:=k) (by omega)).2]
  exact List.mem_take_iff_getElem.2 ⟨k,by omega,rfl⟩
 have:=hh _ hm
 change apC ps (getK cs i) (getK cs k) = true at this
 rw [h] at this; exact absurd this (by decide)
theorem planB_yes {ps:List Pt} {cs:List Cr} (h:∀ i,i < cs.length → ∀ k,k < i → apC ps (getK cs i) (getK cs k) = true):planB ps cs = true:=by
 unfold planB
 rw [List.all_eq_true]
 intro i hi
 rw [List.all_eq_true]
 intro d hd
 obtain ⟨k,hk,rfl⟩:=List.mem_take_iff_getElem.1 hd
 have:=h i (List.mem_range.1 hi) k (by omega)
 rw [(getK_get (cs:=cs) (k:=k) (by omega)).2] at this
 exact this
theorem c179 (ps:List Pt) (cs:List Cr) (hv:∀ p ∈ ps,PV p) (hcin:∀ c ∈ cs,Cin ps.length c) (hdir:∀ c ∈ cs,0 ≤ dirC ps c) (hc:(cs.length:Int) ≤ 1048576) :
  PC E 179 [.i (.ptr (encPa ps cs)),.i (.sl (cs.map (sgC ps)))] [.i (.bool (planB ps cs))]:=by
 refine zP hE Proofs.Tryz.func179 Proofs.Tryz.ntmps179 rfl rfl ?_
 simp (maxSteps:=999999) (disch:=first|exact {}|omega|simp) [zS]
 refine XL.by hE (ι:={ i:Nat // i ≤ cs.length ∧ ∀ j,j < i → ∀ k,k < j → apC ps (getK cs j) (getK cs k) = true }) (fun i=>⟨[(0,.i (.ptr (encPa ps cs))),(1,.i (.sl (cs.map (sgC ps)))),(5,.i (.int .i64 i.1))],[]⟩)
  (fun i=>cs.length - i.1) ⟨0,Nat.zero_le _,fun j hj=>by omega⟩ ⟨by simp,by simp,by simp⟩ (by kernel_rfl) ?_
 rintro ⟨i,hi,hall⟩
 by_cases hlt:i < cs.length
 ·simp (maxSteps:=999999) (disch:=first|exact {}|omega|simp) [zS,hlt]
  refine XL.by hE (ι:={ k:Nat // k ≤ i ∧ ∀ j,j < k → apC ps (getK cs i) (getK cs j) = true }) (fun k=>⟨[(0,.i (.ptr (encPa ps cs))),(1,.i (.sl (cs.map (sgC ps)))),(5,.i (.int .i64 i)),(6,.i (.int .i64 k.1))],[]⟩)
   (fun k=>i - k.1) ⟨0,Nat.zero_le _,fun j hj=>by omega⟩ ⟨by simp,by simp,by simp⟩ (by kernel_rfl) ?_
  rintro ⟨k,hk,hin⟩
  by_cases hlk:k < i
  ·obtain ⟨gi,ei⟩:=getK_get hlt
   obtain ⟨gk,ek⟩:=getK_get (cs:=cs) (k:=k) (by omega)
   have ci:=hcin _ (List.getElem_mem hlt)
   have ck:=hcin _ (List.getElem_mem (show k < cs.length by omega))
   have di:=hdir _ (List.getElem_mem hlt)
   have dk:=hdir _ (List.getElem_mem (show k < cs.length by omega))
   rw [← ei] at ci di
   rw [← ek] at ck dk
   have si:(cs.map (sgC ps))[i]? = some (sgC ps (getK cs i)):=by rw [ei]; simp [hlt]
   have sk:(cs.map (sgC ps))[k]? = some (sgC ps (getK cs k)):=by rw [ek]; simp [show k < cs.length by omega]
   have hkl:k < cs.length:=by omega
   have hno:meetC ps (getK cs i) (getK cs k) = true → planB ps cs = false:=fun h=>planB_no hlt hlk (by rw [ap_meet hv ci ck di dk,h]; rfl)
   have hyes:meetC ps (getK cs i) (getK cs k) = false → ∀ j,j < k + 1 → apC ps (getK cs i) (getK cs j) = true:=fun h j hj=>by
    by_cases e:j = k
    ·subst e; rw [ap_meet hv ci ck di dk,h]; rfl
    ·exact hin j (by omega)
   have A:=pI_pv hv (i:=(getK cs i).a) ci.a0 (by have:=ci.ab; have:=ci.bn; omega)
   have B:=pI_pv hv (i:=(getK cs i).b) (by have:=ci.a0; have:=ci.ab; omega) ci.bn
   have X:=pI_pv hv (i:=(getK cs k).a) ck.a0 (by have:=ck.ab; have:=ck.bn; omega)
   have Y:=pI_pv hv (i:=(getK cs k).b) (by have:=ck.a0; have:=ck.ab; omega) ck.bn
   have sh:=c243 (getK cs i) (getK cs k)
   have mt:=c242 _ _ _ _ (shareB (getK cs i).a (getK cs i).b (getK cs k).a (getK cs k).b) A B X Y di dk
   change PC E _ [.i (.ptr (sgC ps (getK cs i))),.i (.ptr (sgC ps (getK cs k))),_] [.i (.bool (meetC ps (getK cs i) (getK cs k)))] at mt
   clear A B X Y ci ck di dk ei ek
   generalize getK cs i = c at *
   generalize getK cs k = d at *
   have t3:∀ c:Cr,List.take 3 (encK c) = encK c:=fun _=>rfl
   simp (maxSteps:=999999) (disch:=first|exact {}|omega|simp) [zS,hlt,hlk,hkl,gi,gk,si,sk,encPa,t3]
   refine zC (sh) ?_
   simp (maxSteps:=999999) (disch:=first|exact {}|omega|simp) [zS]
   refine zC (mt) ?_
   simp (maxSteps:=999999) (disch:=first|exact {}|omega|simp) [zS]
   cases hm:meetC ps c d
   ·simp (maxSteps:=999999) (disch:=first|exact {}|omega|simp) [zS]
    (refine ⟨⟨k + 1,by omega,hyes hm⟩,by (simp; try omega), ?_⟩; constructor <;> (simp (maxSteps:=999999) (disch:=first|exact {}|omega|simp) [zS,encPa]) <;> (try omega))
   ·rw [hno hm]
    simp (maxSteps:=999999) (disch:=first|exact {}|omega|simp) [zS]
  ·obtain rfl:k = i:=by omega
   simp (maxSteps:=999999) (disch:=first|exact {}|omega|simp) [zS]
   (refine ⟨⟨k + 1,by omega,fun j hj=>by
    by_cases e:j = k
    ·subst e; exact hin
    ·exact hall j (by omega)⟩,by (simp; try omega), ?_⟩; constructor <;> (simp (maxSteps:=999999) (disch:=first|exact {}|omega|simp) [zS]) <;> (try omega))
 ·obtain rfl:i = cs.length:=by omega
  rw [planB_yes hall]
  simp (maxSteps:=999999) (disch:=first|exact {}|omega|simp) [zS]
end Go.Vai
