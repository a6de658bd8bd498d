/- Texts of this claim: Zp1, Zp2, Zp3, Zp4, Zp5. -/
import Derived.Test.YtiipeibaiphmpaaGreatDoorTb4
set_option linter.unusedVariables false
set_option linter.unusedSimpArgs false
set_option maxHeartbeats 4000000
namespace Go.Vai
theorem c295 (n:Int) (h0:0 ≤ n) (h1:n ≤ 1099511627776):PC E 295 [.esl,.i (.int .i64 n)] [.own 6 []]:=by
 refine zP hE Proofs.Tryz.func295 Proofs.Tryz.ntmps295 rfl rfl ?_
 have w0:IntKind.i64.wrap 0 = 0:=by decide
 have w1:IntKind.i64.wrap n = n:=wrap_i64 (by omega) (by omega)
 have c0:(0:Int) - 0 = 0:=rfl
 simp (maxSteps:=999999) (disch:=first|exact {}|omega|simp) [zS,show ¬ (n < 0) by omega,w0,w1]
 have hm1:n ≤ most:=by unfold most; omega
 have hm2:48 * n ≤ most:=by unfold most; omega
 (first | refine Gd.dec (fun h2=>?_) (fun h2=>?_) | refine Gd.intro (fun h2=>?_) (fun h2=>?_)) <;> simp (maxSteps:=999999) (disch:=first|exact {}|omega|simp) [zS,h2]
def encPs (l:List Pt):List (List IV):=l.map encP
@[simp] theorem encPs_length (l:List Pt):(encPs l).length = l.length:=by simp [encPs]
def encPL (l:List Pt):List IV:=[.sl (encPs l)]
def sumLen (L:List (List Pt)):Nat:=(L.map List.length).sum
theorem sumLen_take {L:List (List Pt)} {k:Nat} (h:k < L.length):sumLen (L.take (k + 1)) = sumLen (L.take k) + L[k].length:=by
 unfold sumLen
 rw [List.take_succ_eq_append_getElem h,List.map_append,List.sum_append]
 simp
theorem sumLen_le (L:List (List Pt)) (k:Nat):sumLen (L.take k) ≤ sumLen L:=by
 have:sumLen L = sumLen (L.take k) + sumLen (L.drop k):=by
  unfold sumLen
  rw [← List.sum_append,← List.map_append,List.take_append_drop]
 omega
theorem flat_take {L:List (List Pt)} {k:Nat} (h:k < L.length):(L.take (k + 1)).flatten = (L.take k).flatten ++ L[k]:=by
 rw [List.take_succ_eq_append_getElem h,List.flatten_append]
 simp
theorem flat_len (L:List (List Pt)):L.flatten.length = sumLen L:=by simp [sumLen,List.length_flatten]
theorem encPs_append (a b:List Pt):encPs (a ++ b) = encPs a ++ encPs b:=by simp [encPs]
theorem take_flat (L:List (List Pt)):(encPs L.flatten).take (sumLen L) = encPs L.flatten:=List.take_of_length_le (by rw [encPs_length,flat_len]; exact Nat.le_refl _)
theorem mem_encPs (l:List Pt):(∀ x ∈ encPs l,x.length = 6) = True:=by
 simp [encPs,encP]
theorem c274 (L:List (List Pt)) (hl:(L.length:Int) ≤ 1048576) (h:(sumLen L:Int) ≤ 1099511627776):PC E 274 [.i (.sl (L.map encPL))] [.own 6 (encPs L.flatten)]:=by
 refine zP hE Proofs.Tryz.func274 Proofs.Tryz.ntmps274 rfl rfl ?_
 simp (maxSteps:=999999) (disch:=first|exact {}|omega|simp) [zS]
 refine XL.by hE (ι:={ k:Nat // k ≤ L.length }) (fun k=>⟨[(0,.i (.sl (L.map encPL))),(3,.i (.int .i64 (sumLen (L.take k.1)))),(9,.i (.sl (L.map encPL))),(10,.i (.int .i64 L.length)),(11,.i (.int .i64 k.1))],[]⟩)
  (fun k=>L.length - k.1) ⟨0,Nat.zero_le _⟩ ⟨by simp [sumLen],by simp,by simp⟩ (by kernel_rfl) ?_
 rintro ⟨k,hk⟩
 have hsk:=sumLen_le L k
 by_cases hlt:k < L.length
 ·have hsk1:=sumLen_le L (k + 1)
  rw [sumLen_take hlt] at hsk1
  have hw:IntKind.i64.wrap ((sumLen (L.take k):Int) + L[k].length) = ((sumLen (L.take k) + L[k].length:Nat):Int):=by rw [wrap_i64 (by omega) (by omega)]; simp
  simp (maxSteps:=999999) (disch:=first|exact {}|omega|simp) [zS,hlt,encPL,hw,show ¬ ((sumLen (L.take k):Int) + L[k].length < 0) by omega]
  (refine ⟨⟨k + 1,by omega⟩,by (simp; try omega), ?_⟩; constructor <;> (simp (maxSteps:=999999) (disch:=first|exact {}|omega|simp) [zS,sumLen_take hlt]) <;> (try omega))
 ·obtain rfl:k = L.length:=by omega
  simp (maxSteps:=999999) (disch:=first|exact {}|omega|simp) [zS]
  refine zC (c295 (sumLen L) (by omega) (by omega)) ?_
  simp (maxSteps:=999999) (disch:=first|exact {}|omega|simp) [zS]
  refine XL.by hE (ι:={ k:Nat // k ≤ L.length }) (fun k=>⟨[(6,.own 24 0 (sumLen (L.take k.1))),(25,.i (.sl (L.map encPL))),(26,.i (.int .i64 L.length)),(27,.i (.int .i64 k.1))],[(24,⟨6,encPs (L.take k.1).flatten⟩)]⟩)
   (fun k=>L.length - k.1) ⟨0,Nat.zero_le _⟩ ⟨by simp [sumLen],by simp [encPs],by simp⟩ (by kernel_rfl) ?_
  rintro ⟨k,hk2⟩
  have hsk:=sumLen_le L k
  by_cases hlt:k < L.length
  ·have hsk1:=sumLen_le L (k + 1)
   rw [sumLen_take hlt] at hsk1
   simp (maxSteps:=999999) (disch:=first|exact {}|omega|simp) [zS,hlt,encPL,mem_encPs,most,show (sumLen (L.take k):Int) + L[k].length ≤ 140737488355328 by omega,show ((sumLen (L.take k):Int) + L[k].length) * 48 ≤ 140737488355328 by omega]
   (refine ⟨⟨k + 1,by omega⟩,by (simp; try omega), ?_⟩; constructor <;> (simp (maxSteps:=999999) (disch:=first|exact {}|omega|simp) [zS,sumLen_take hlt,flat_take hlt,encPs_append,take_flat]) <;> (try omega))
  ·obtain rfl:k = L.length:=by omega
   simp (maxSteps:=999999) (disch:=first|exact {}|omega|simp) [zS,take_flat]
end Go.Vai
namespace Go.Vai
def ncmp (x y:Nu):Int:=nsign (nsub x y)
def pcmp (p q:Pt):Int:=if ncmp p.x q.x = 0 then ncmp p.y q.y else ncmp p.x q.x
theorem c151 (x y:Nu) {K M M':Nat} (h:NB K M x) (h':NB K M' y) (hK:K ≤ 60) (hM:M + M' ≤ 4611686018427387904):PC E 151 [.agg (encN x),.agg (encN y)] [.i (.int .i64 (ncmp x y))]:=by
 refine zP hE Proofs.Tryz.func151 Proofs.Tryz.ntmps151 rfl rfl ?_
 simp (maxSteps:=999999) (disch:=first|exact {}|omega|simp) [zS]
 refine zC (c139 x y h h' hK hM) ?_
 simp (maxSteps:=999999) (disch:=first|exact {}|omega|simp) [zS]
 have hs:=h.sub h'
 refine zC (c140 _ (hs.i64 hM hK) (hs.ne hM).1 (hs.ne hM).2) ?_
 simp (maxSteps:=999999) (disch:=first|exact {}|omega|simp) [zS,ncmp]
theorem c79 (p q:Pt) {K M M':Nat} (h:PB K M p) (h':PB K M' q) (hK:K ≤ 60) (hM:M + M' ≤ 4611686018427387904):PC E 79 [.agg (encP p),.agg (encP q)] [.i (.int .i64 (pcmp p q))]:=by
 refine zP hE Proofs.Tryz.func79 Proofs.Tryz.ntmps79 rfl rfl ?_
 simp (maxSteps:=999999) (disch:=first|exact {}|omega|simp) [zS,encP]
 refine zC (c151 p.x q.x h.1 h'.1 hK hM) ?_
 simp (maxSteps:=999999) (disch:=first|exact {}|omega|simp) [zS]
 (first | refine Gd.dec (fun h1=>?_) (fun h1=>?_) | refine Gd.intro (fun h1=>?_) (fun h1=>?_)) <;> simp (maxSteps:=999999) (disch:=first|exact {}|omega|simp) [zS,h1]
 ·refine zC (c151 p.y q.y h.2 h'.2 hK hM) ?_
  simp (maxSteps:=999999) (disch:=first|exact {}|omega|simp) [zS,pcmp,h1]
 ·simp (maxSteps:=999999) (disch:=first|exact {}|omega|simp) [zS,pcmp,h1]
def sideL (p q:Pt):Li:=lat p (dirR (pminus q p) % 8)
theorem c74 (p q:Pt) {K M M':Nat} (h:PB K M p) (h':PB K M' q) (hK:K ≤ 60) (hM:6 * (M' + M) ≤ 4611686018427387904) (hd:0 ≤ dirR (pminus q p)) :
  PC E 74 [.agg (encP p),.agg (encP q)] [.agg (encLi (sideL p q)),.i (.bool (decide (dirR (pminus q p) < 8)))]:=by
 refine zP hE Proofs.Tryz.func74 Proofs.Tryz.ntmps74 rfl rfl ?_
 have hr:=dirR_range (pminus q p)
 simp (maxSteps:=999999) (disch:=first|exact {}|omega|simp) [zS]
 refine zC (c141 p q h' h hK hM) ?_
 simp (maxSteps:=999999) (disch:=first|exact {}|omega|simp) [zS,tmod8 hd]
 refine zC (c142 p (dirR (pminus q p) % 8) h hK (by omega) (by omega) (by omega)) ?_
 simp (maxSteps:=999999) (disch:=first|exact {}|omega|simp) [zS,sideL]
def dvS (y:Nu):Int:=if y.a * y.a - 2 * (y.b * y.b) < 0 then -1 else 1
def dvE (y:Nu):Nat:=let n:=(y.a * y.a - 2 * (y.b * y.b)).natAbs; if n = 1 then 0 else if n = 2 then 1 else if n = 4 then 2 else 3
def detL (l m:Li):Nu:=pcross (vec (l.dir + 4)) (vec (m.dir + 4))
theorem det_Dv {l m:Li} (h0:0 ≤ l.dir) (h1:l.dir ≤ 7) (g0:0 ≤ m.dir) (g1:m.dir ≤ 7) (hne:l.dir ≠ m.dir):Dv (detL l m) (dvS (detL l m)) (dvE (detL l m)):=by
 unfold detL
 generalize l.dir = d at *
 generalize m.dir = e at *
 rcases dir8 h0 h1 with rfl | rfl | rfl | rfl | rfl | rfl | rfl | rfl <;> rcases dir8 g0 g1 with rfl | rfl | rfl | rfl | rfl | rfl | rfl | rfl <;>
  first | exact absurd rfl hne | exact ⟨by decide,by decide,by decide,by decide,by decide,by decide⟩
def over (x det:Nu):Nu:=ndiv x det (dvS det) (dvE det)
def meetP (l m:Li):Pt:=⟨over (nsub (nmul l.off (vec (m.dir + 4)).y) (nmul m.off (vec (l.dir + 4)).y)) (detL l m),over (nsub (nmul m.off (vec (l.dir + 4)).x) (nmul l.off (vec (m.dir + 4)).x)) (detL l m)⟩
theorem NB.vecm {K M:Nat} {x:Nu} (h:NB K M x) {v:Nu} (hv:NB 0 1 v):NB K (3 * M) (nmul x v):=by
 have:=h.mul hv; simpa using this
theorem meet_PB {l m:Li} {K M:Nat} (h:NB K M l.off) (h':NB K M m.off) (h0:0 ≤ l.dir) (h1:l.dir ≤ 7) (g0:0 ≤ m.dir) (g1:m.dir ≤ 7) (hne:l.dir ≠ m.dir):PB (K + 3) (576 * M) (meetP l m):=by
 have hl:=vec_PB (d:=l.dir + 4) (by omega) (by omega)
 have hm:=vec_PB (d:=m.dir + 4) (by omega) (by omega)
 have hd:=det_Dv h0 h1 g0 g1 hne
 exact ⟨(((h.vecm hm.2).sub (h'.vecm hl.2)).div hd).mono (by omega),(((h'.vecm hl.1).sub (h.vecm hm.1)).div hd).mono (by omega)⟩
theorem c75 (l m:Li) {K M:Nat} (h:NB K M l.off) (h':NB K M m.off) (hK:K ≤ 50) (hM:576 * M ≤ 4611686018427387904) (h0:0 ≤ l.dir) (h1:l.dir ≤ 7) (g0:0 ≤ m.dir) (g1:m.dir ≤ 7) (hne:l.dir ≠ m.dir) :
  PC E 75 [.agg (encLi l),.agg (encLi m)] [.agg (encP (meetP l m)),.i (.bool true)]:=by
 refine zP hE Proofs.Tryz.func75 Proofs.Tryz.ntmps75 rfl rfl ?_
 have hl:=vec_PB (d:=l.dir + 4) (by omega) (by omega)
 have hm:=vec_PB (d:=m.dir + 4) (by omega) (by omega)
 have hd:=det_Dv h0 h1 g0 g1 hne
 simp (maxSteps:=999999) (disch:=first|exact {}|omega|simp) [zS]
 refine zC (c137 l h0 (by omega)) ?_
 simp (maxSteps:=999999) (disch:=first|exact {}|omega|simp) [zS]
 refine zC (c137 m g0 (by omega)) ?_
 simp (maxSteps:=999999) (disch:=first|exact {}|omega|simp) [zS,encP]
 refine zC (c143 (vec (l.dir + 4)) (vec (m.dir + 4)) hl hm (by decide) (by decide) (by decide)) ?_
 simp (maxSteps:=999999) (disch:=first|exact {}|omega|simp) [zS,encP,encLi]
 refine zC (c144 l.off (vec (m.dir + 4)).y h hm.2 (by omega) (by omega) (by omega)) ?_
 simp (maxSteps:=999999) (disch:=first|exact {}|omega|simp) [zS,encP,encLi]
 refine zC (c144 m.off (vec (l.dir + 4)).y h' hl.2 (by omega) (by omega) (by omega)) ?_
 simp (maxSteps:=999999) (disch:=first|exact {}|omega|simp) [zS]
 refine zC (c139 _ _ (h.vecm hm.2) (h'.vecm hl.2) (by omega) (by omega)) ?_
 simp (maxSteps:=999999) (disch:=first|exact {}|omega|simp) [zS]
 refine zC (c145 _ (detL l m) ((h.vecm hm.2).sub (h'.vecm hl.2)) hd hK (by omega)) ?_
 simp (maxSteps:=999999) (disch:=first|exact {}|omega|simp) [zS,encP,encLi]
 refine zC (c144 m.off (vec (l.dir + 4)).x h' hl.1 (by omega) (by omega) (by omega)) ?_
 simp (maxSteps:=999999) (disch:=first|exact {}|omega|simp) [zS,encP,encLi]
 refine zC (c144 l.off (vec (m.dir + 4)).x h hm.1 (by omega) (by omega) (by omega)) ?_
 simp (maxSteps:=999999) (disch:=first|exact {}|omega|simp) [zS]
 refine zC (c139 _ _ (h'.vecm hl.1) (h.vecm hm.1) (by omega) (by omega)) ?_
 simp (maxSteps:=999999) (disch:=first|exact {}|omega|simp) [zS]
 refine zC (c145 _ (detL l m) ((h'.vecm hl.1).sub (h.vecm hm.1)) hd hK (by omega)) ?_
 simp (maxSteps:=999999) (disch:=first|exact {}|omega|simp) [zS,meetP,over,encP,encN]
end Go.Vai
namespace Go.Vai
def nth (l:List Pt) (k:Nat):Pt:=l.getD k ⟨⟨0,0,0⟩,⟨0,0,0⟩⟩
theorem nth_eq {l:List Pt} {k:Nat} (h:k < l.length):nth l k = l[k]:=by simp [nth,h]
theorem nth_mem {l:List Pt} {k:Nat} (h:k < l.length):nth l k ∈ l:=by rw [nth_eq h]; exact List.getElem_mem h
theorem encPs_get {l:List Pt} {k:Nat} (h:k < l.length):(encPs l)[k]? = some (encP (nth l k)):=by simp [encPs,nth_eq h,h]
theorem flat_encP (p:Pt):flatC (encP p):=by
 intro x hx
 simp only [encP,List.mem_cons,List.not_mem_nil,or_false] at hx
 rcases hx with rfl | rfl | rfl | rfl | rfl | rfl <;> rfl
@[simp] theorem flat_encPs (l:List Pt):(∀ el,el ∈ encPs l → flatC el) = True:=by
 simp only [eq_iff_iff,iff_true]
 intro el he
 obtain ⟨p,-,rfl⟩:=List.mem_map.1 he
 exact flat_encP p
theorem encPs_drop (l:List Pt) (k:Nat):(encPs l).drop k = encPs (l.drop k):=by simp [encPs]
theorem encPs_take (l:List Pt) (k:Nat):(encPs l).take k = encPs (l.take k):=by simp [encPs]
def leastF (l:List Pt):Nat → Nat
 | 0=>0
 | k + 1=>if pcmp (nth l k) (nth l (leastF l k)) < 0 then k else leastF l k
theorem leastF_lt {l:List Pt}:∀ {k:Nat},k ≤ l.length → 0 < l.length → leastF l k < l.length
 | 0,_,h=>h
 | k + 1,h,h0=>by
  unfold leastF
  split
  ·omega
  ·exact leastF_lt (by omega) h0
def least (l:List Pt):Nat:=leastF l l.length
theorem c273 (l:List Pt) {K M:Nat} (h:∀ p ∈ l,PB K M p) (hK:K ≤ 60) (hM:M + M ≤ 4611686018427387904) (hl:(l.length:Int) ≤ 1099511627776):PC E 273 [.i (.sl (encPs l))] [.i (.int .i64 (least l))]:=by
 refine zP hE Proofs.Tryz.func273 Proofs.Tryz.ntmps273 rfl rfl ?_
 simp (maxSteps:=999999) (disch:=first|exact {}|omega|simp) [zS]
 refine XL.by hE (ι:={ k:Nat // k ≤ l.length }) (fun k=>⟨[(0,.i (.sl (encPs l))),(3,.i (.int .i64 (leastF l k.1))),(6,.i (.sl (encPs l))),(7,.i (.int .i64 l.length)),(8,.i (.int .i64 k.1))],[]⟩)
  (fun k=>l.length - k.1) ⟨0,Nat.zero_le _⟩ ⟨by simp [leastF],by simp,by simp⟩ (by kernel_rfl) ?_
 rintro ⟨k,hk⟩
 by_cases hlt:k < l.length
 ·have hlk:=leastF_lt hk (by omega)
  simp (maxSteps:=999999) (disch:=first|exact {}|omega|simp) [zS,hlt,hlk,encPs_get hlt,encPs_get hlk]
  refine zC (c79 (nth l k) (nth l (leastF l k)) (h _ (nth_mem hlt)) (h _ (nth_mem hlk)) hK hM) ?_
  simp (maxSteps:=999999) (disch:=first|exact {}|omega|simp) [zS]
  (first | refine Gd.dec (fun hc=>?_) (fun hc=>?_) | refine Gd.intro (fun hc=>?_) (fun hc=>?_)) <;> simp (maxSteps:=999999) (disch:=first|exact {}|omega|simp) [zS,hc]
  ·(refine ⟨⟨k + 1,by omega⟩,by (simp; try omega), ?_⟩; constructor <;> (simp (maxSteps:=999999) (disch:=first|exact {}|omega|simp) [zS,leastF,hc]) <;> (try omega))
  ·(refine ⟨⟨k + 1,by omega⟩,by (simp; try omega), ?_⟩; constructor <;> (simp (maxSteps:=999999) (disch:=first|exact {}|omega|simp) [zS,leastF,hc]) <;> (try omega))
 ·obtain rfl:k = l.length:=by omega
  simp (maxSteps:=999999) (disch:=first|exact {}|omega|simp) [zS,least]
def rot0 (l:List Pt):List Pt:=l.drop (least l) ++ l.take (least l)
theorem c229 (l:List Pt) {K M:Nat} (h:∀ p ∈ l,PB K M p) (hK:K ≤ 60) (hM:M + M ≤ 4611686018427387904) (hl:(l.length:Int) ≤ 1099511627776):PC E 229 [.i (.sl (encPs l))] [.own 6 (encPs (rot0 l))]:=by
 refine zP hE Proofs.Tryz.func229 Proofs.Tryz.ntmps229 rfl rfl ?_
 simp (maxSteps:=999999) (disch:=first|exact {}|omega|simp) [zS]
 (first | refine Gd.dec (fun h0=>?_) (fun h0=>?_) | refine Gd.intro (fun h0=>?_) (fun h0=>?_)) <;> simp (maxSteps:=999999) (disch:=first|exact {}|omega|simp) [zS,h0]
 ·subst h0
  simp (maxSteps:=999999) (disch:=first|exact {}|omega|simp) [zS,rot0,encPs]
 ·refine zC (c273 l h hK hM hl) ?_
  have hlp:0 < l.length:=List.length_pos_iff.2 h0
  have hlt:least l < l.length:=leastF_lt (Nat.le_refl _) hlp
  have ht:List.take (l.length - least l) (List.drop (least l) (encPs l)) = encPs (l.drop (least l)):=by rw [encPs_drop]; exact List.take_of_length_le (by simp)
  simp (maxSteps:=999999) (disch:=first|exact {}|omega|simp) [zS,hlt,Nat.le_of_lt hlt,mem_encPs,ht,encPs_take]
  refine zC (c274 [l.drop (least l),l.take (least l)] (by simp) (by simp [sumLen]; omega)) ?_
  simp (maxSteps:=999999) (disch:=first|exact {}|omega|simp) [zS,rot0]
  exact (List.take_of_length_le (by simp; omega)).symm
end Go.Vai
namespace Go.Vai
def sd (l:Li) (p:Pt):Int:=nsign (nsub (ndot (vec (l.dir + 4)) p) l.off)
theorem sgn_range (n:Int):sgn n = -1 ∨ sgn n = 0 ∨ sgn n = 1:=by
 unfold sgn; split; · simp
 ·split <;> simp
theorem nsign_range (x:Nu):nsign x = -1 ∨ nsign x = 0 ∨ nsign x = 1:=by
 unfold nsign
 split
 ·exact sgn_range _
 ·split <;> exact sgn_range _
theorem sd_range (l:Li) (p:Pt):sd l p = -1 ∨ sd l p = 0 ∨ sd l p = 1:=nsign_range _
def nxt (ps:List Pt) (k:Nat):Pt:=nth ps ((k + 1) % ps.length)
def cutF (l:Li) (s:Int) (p q:Pt):List Pt :=
 (if 0 ≤ s * sd l p then [p] else []) ++ (if s * sd l p * (s * sd l q) < 0 then [meetP (sideL p q) l] else [])
def cutN (l:Li) (s:Int) (ps:List Pt):Nat → List Pt
 | 0=>[]
 | k + 1=>cutN l s ps k ++ cutF l s (nth ps k) (nxt ps k)
theorem cutN_len (l:Li) (s:Int) (ps:List Pt):∀ k,(cutN l s ps k).length ≤ 2 * k
 | 0=>by simp [cutN]
 | k + 1=>by
  have:=cutN_len l s ps k
  have h2:(cutF l s (nth ps k) (nxt ps k)).length ≤ 2:=by unfold cutF; split <;> split <;> simp
  simp [cutN]; omega
def hasN (l:Li) (s:Int) (ps:List Pt):Nat → Bool
 | 0=>false
 | k + 1=>hasN l s ps k || decide (0 < s * sd l (nth ps k))
def partR (l:Li) (s:Int) (ps:List Pt):List Pt:=if hasN l s ps ps.length = true then rot0 (cutN l s ps ps.length) else []
def Good (K M:Nat) (l:Li) (s:Int) (ps:List Pt):Prop :=
 ∀ k,k < ps.length → s * sd l (nth ps k) * (s * sd l (nxt ps k)) < 0 → 0 ≤ dirR (pminus (nxt ps k) (nth ps k)) ∧ (sideL (nth ps k) (nxt ps k)).dir ≠ l.dir ∧ NB K M (sideL (nth ps k) (nxt ps k)).off
theorem sideL_dir (p q:Pt):0 ≤ (sideL p q).dir ∧ (sideL p q).dir ≤ 7:=by simp [sideL,lat]; omega
theorem cutN_PB {K M M':Nat} {l:Li} {s:Int} {ps:List Pt} (h:∀ p ∈ ps,PB (K + 3) M' p) (hl:NB K M l.off) (h0:0 ≤ l.dir) (h1:l.dir ≤ 7) (hg:Good K M l s ps) (hM:576 * M ≤ M') :
  ∀ k,k ≤ ps.length → ∀ p ∈ cutN l s ps k,PB (K + 3) M' p
 | 0,_=>by simp [cutN]
 | k + 1,hk=>by
  intro p hp
  simp only [cutN,List.mem_append] at hp
  rcases hp with hp | hp
  ·exact cutN_PB h hl h0 h1 hg hM k (by omega) p hp
  ·simp only [cutF,List.mem_append] at hp
   rcases hp with hp | hp
   ·split at hp
    ·obtain rfl:=List.mem_singleton.1 hp; exact h _ (nth_mem (by omega))
    ·simp at hp
   ·split at hp
    ·rename_i hx
     obtain rfl:=List.mem_singleton.1 hp
     obtain ⟨g1,g2,g3⟩:=hg k (by omega) hx
     exact (meet_PB g3 hl (sideL_dir _ _).1 (sideL_dir _ _).2 h0 h1 g2).mono hM
    ·simp at hp
inductive Va where
 | n | a | b
def vaI (v:Va) (l:List Pt):AV:=match v with
 | .n=>.esl
 | .a=>.own 48 0 l.length
 | .b=>.own 73 0 l.length
def vaH (v:Va) (l:List Pt):List (Nat × Obj):=match v with
 | .n=>[]
 | .a=>[(48,⟨6,encPs l⟩)]
 | .b=>[(73,⟨6,encPs l⟩)]
def vaOk (v:Va) (l:List Pt):Prop:=match v with
 | .n=>l = []
 | _=>True
theorem cside (l:Li) (p:Pt) {K M M':Nat} (h:PB K M p) (h':NB K M' l.off) (hK:K ≤ 60) (hM:6 * M + M' ≤ 4611686018427387904) (h0:0 ≤ l.dir) (h1:l.dir ≤ 7) :
  PC E 73 [.agg (encLi l),.agg (encP p)] [.i (.int .i64 (sd l p))]:=c73 l p h h' hK hM h0 (by omega)
theorem wr_s {s d:Int} (hs:s = 1 ∨ s = -1) (hd:d = -1 ∨ d = 0 ∨ d = 1):IntKind.i64.wrap (s * d) = s * d:=by
 rcases hs with rfl | rfl <;> rcases hd with rfl | rfl | rfl <;> decide
theorem wr_ss {s d d':Int} (hs:s = 1 ∨ s = -1) (hd:d = -1 ∨ d = 0 ∨ d = 1) (hd':d' = -1 ∨ d' = 0 ∨ d' = 1):IntKind.i64.wrap (s * d * (s * d')) = s * d * (s * d'):=by
 rcases hs with rfl | rfl <;> rcases hd with rfl | rfl | rfl <;> rcases hd' with rfl | rfl | rfl <;> decide
theorem c254 (ps:List Pt) (l:Li) (s:Int) {K M M':Nat} (h:∀ p ∈ ps,PB (K + 3) M' p) (hl:NB K M l.off) (h0:0 ≤ l.dir) (h1:l.dir ≤ 7) (hg:Good K M l s ps) (hM:576 * M ≤ M') (hK:K ≤ 40)
  (hM':16 * M' ≤ 4611686018427387904) (hs:s = 1 ∨ s = -1) (hn:((2 * ps.length:Nat):Int) ≤ 1099511627776) :
  PC E 254 [.i (.sl (encPs ps)),.agg (encLi l),.i (.int .i64 s)] [.own 6 (encPs (partR l s ps))]:=by
 have hl3:NB (K + 3) (8 * M) l.off:=by
  have:=hl.up (K':=K + 3) (by omega)
  have e:K + 3 - K = 3:=by omega
  rw [e] at this; exact this.mono (by omega)
 refine zP hE Proofs.Tryz.func254 Proofs.Tryz.ntmps254 rfl rfl ?_
 simp (maxSteps:=999999) (disch:=first|exact {}|omega|simp) [zS]
 refine XL.by hE (ι:={ k:Nat × Va // k.1 ≤ ps.length ∧ vaOk k.2 (cutN l s ps k.1) }) (fun k=>⟨[(0,.i (.sl (encPs ps))),(2,.i (.int .i64 s)),(4,.ptr 4 0 0),(7,vaI k.1.2 (cutN l s ps k.1.1)),(8,.i (.bool (hasN l s ps k.1.1))),(18,.i (.sl (encPs ps))),(19,.i (.int .i64 ps.length)),(20,.i (.int .i64 k.1.1))],(4,⟨4,[encLi l]⟩) :: vaH k.1.2 (cutN l s ps k.1.1)⟩)
  (fun k=>ps.length - k.1.1) ⟨(0,.n),Nat.zero_le _,rfl⟩ ⟨by simp [vaI,hasN],by simp [vaH],by simp [vaI]⟩ (by kernel_rfl) ?_
 rintro ⟨⟨k,v⟩,hk,hv⟩
 simp only at hk hv
 by_cases hlt:k < ps.length
 ·have hmod:(k + 1) % ps.length < ps.length:=Nat.mod_lt _ (by omega)
  have hp:=h _ (nth_mem hlt)
  have hq:PB (K + 3) M' (nxt ps k):=h _ (nth_mem hmod)
  have hcl:=cutN_len l s ps k
  have hr1:=sd_range l (nth ps k)
  have hr2:=sd_range l (nxt ps k)
  have gk:=hg k hlt
  have eq2:(encPs ps)[(k + 1) % ps.length]? = some (encP (nxt ps k)):=encPs_get hmod
  have hne:¬ ps = []:=by rintro rfl; simp at hlt
  have rm:((k:Int) + 1).tmod (ps.length:Int) = (((k + 1) % ps.length:Nat):Int):=by
   rw [Int.tmod_eq_emod_of_nonneg (by omega)]; simp
  have hm0:¬ (((k:Int) + 1) % (ps.length:Int) < 0):=by have:=Int.emod_nonneg ((k:Int) + 1) (b:=(ps.length:Int)) (by omega); omega
  have hm1:(((k:Int) + 1) % (ps.length:Int)).toNat = (k + 1) % ps.length:=by
   have:((k:Int) + 1) % (ps.length:Int) = (((k + 1) % ps.length:Nat):Int):=by simp
   rw [this]; rfl
  have w1:=wr_s hs hr1
  have w2:=wr_s hs hr2
  have w3:=wr_ss hs hr1 hr2
  have c1:=cside l (nth ps k) hp hl3 (by omega) (by omega) h0 h1
  have c2:=cside l (nxt ps k) hq hl3 (by omega) (by omega) h0 h1
  generalize hA:s * sd l (nth ps k) = A at *
  generalize hB:s * sd l (nxt ps k) = B at *
  have lP:∀ p:Pt,(encP p).length = 6:=fun _=>rfl
  have lL:∀ l:Li,(encLi l).length = 4:=fun _=>rfl
  have tk:List.take (cutN l s ps k).length (List.map encP (cutN l s ps k)) = List.map encP (cutN l s ps k):=List.take_of_length_le (by simp)
  have tk2:∀ p:Pt,List.take ((cutN l s ps k).length + 1) (List.map encP (cutN l s ps k) ++ [encP p]) = List.map encP (cutN l s ps k) ++ [encP p]:=fun p=>List.take_of_length_le (by simp)
  have big1:((cutN l s ps k).length:Int) + 1 ≤ 140737488355328:=by omega
  have big2:(((cutN l s ps k).length:Int) + 1) * 48 ≤ 140737488355328:=by omega
  have big3:((cutN l s ps k).length:Int) + 1 + 1 ≤ 140737488355328:=by omega
  have big4:(((cutN l s ps k).length:Int) + 1 + 1) * 48 ≤ 140737488355328:=by omega
  cases v with
  | n =>
   simp only [vaOk] at hv
   simp (maxSteps:=999999) (disch:=first|exact {}|omega|simp) [zS,hlt,encPs_get hlt,vaI,vaH,hne,rm,hm0,hm1,hmod,eq2,lP,lL]
   refine zC (c1) ?_
   simp (maxSteps:=999999) (disch:=first|exact {}|omega|simp) [zS,hlt,encPs_get hlt,vaI,vaH,hne,rm,hm0,hm1,hmod,eq2,lP,lL,w1,hA]
   refine zC (c2) ?_
   simp (maxSteps:=999999) (disch:=first|exact {}|omega|simp) [zS,hlt,encPs_get hlt,vaI,vaH,hne,rm,hm0,hm1,hmod,eq2,lP,lL,w2,hA,hB]
   cases hh:hasN l s ps k
   ·(first | refine Gd.dec (fun h4=>?_) (fun h4=>?_) | refine Gd.intro (fun h4=>?_) (fun h4=>?_)) <;> simp (maxSteps:=999999) (disch:=first|exact {}|omega|simp) [zS,h4]
    ·simp (maxSteps:=999999) (disch:=first|exact {}|omega|simp) [zS,h4,w3,lP,lL,mem_encPs,most,big1,big2]
     (first | refine Gd.dec (fun h5=>?_) (fun h5=>?_) | refine Gd.intro (fun h5=>?_) (fun h5=>?_)) <;> simp (maxSteps:=999999) (disch:=first|exact {}|omega|simp) [zS,h5]
     ·obtain ⟨g1,g2,g3⟩:=gk h5
      refine zC (c74 (nth ps k) (nxt ps k) hp hq (by omega) (by omega) g1) ?_
      simp (maxSteps:=999999) (disch:=first|exact {}|omega|simp) [zS,lP,lL]
      refine zC (c75 (sideL (nth ps k) (nxt ps k)) l g3 hl (by omega) (by omega) (sideL_dir _ _).1 (sideL_dir _ _).2 h0 h1 g2) ?_
      simp (maxSteps:=999999) (disch:=first|exact {}|omega|simp) [zS,lP,lL,mem_encPs,most,big1,big2,big3,big4]
      have hcut:cutN l s ps (k + 1) = cutN l s ps k ++ cutF l s (nth ps k) (nxt ps k):=rfl
      simp only [cutF,hA,hB,h4,h5,hv,if_true,if_false,List.nil_append,List.append_nil,List.append_assoc,List.cons_append] at hcut
      generalize meetP (sideL (nth ps k) (nxt ps k)) l = X at *
      generalize sideL (nth ps k) (nxt ps k) = Y at *
      (refine ⟨⟨(k + 1,.a),by omega,trivial⟩,by (simp; try omega), ?_⟩; constructor <;> (simp (maxSteps:=999999) (disch:=first|exact {}|omega|simp) [zS,hcut,hA,hB,h4,h5,hv,hasN,hh,vaI,vaH,encPs,tk,tk2]) <;> (try omega))
     ·(refine ⟨⟨(k + 1,.a),by omega,trivial⟩,by (simp; try omega), ?_⟩; constructor <;> (simp (maxSteps:=999999) (disch:=first|exact {}|omega|simp) [zS,cutN,cutF,hA,hB,h4,h5,hv,hasN,hh,vaI,vaH,encPs,tk,tk2]) <;> (try omega))
    ·have h40:¬ 0 < A:=by omega
     simp (maxSteps:=999999) (disch:=first|exact {}|omega|simp) [zS,h4,w3,lP,lL]
     (first | refine Gd.dec (fun h5=>?_) (fun h5=>?_) | refine Gd.intro (fun h5=>?_) (fun h5=>?_)) <;> simp (maxSteps:=999999) (disch:=first|exact {}|omega|simp) [zS,h5]
     ·obtain ⟨g1,g2,g3⟩:=gk h5
      refine zC (c74 (nth ps k) (nxt ps k) hp hq (by omega) (by omega) g1) ?_
      simp (maxSteps:=999999) (disch:=first|exact {}|omega|simp) [zS,lP,lL]
      refine zC (c75 (sideL (nth ps k) (nxt ps k)) l g3 hl (by omega) (by omega) (sideL_dir _ _).1 (sideL_dir _ _).2 h0 h1 g2) ?_
      simp (maxSteps:=999999) (disch:=first|exact {}|omega|simp) [zS,lP,lL,mem_encPs,most,big1,big2,big3,big4]
      have hcut:cutN l s ps (k + 1) = cutN l s ps k ++ cutF l s (nth ps k) (nxt ps k):=rfl
      simp only [cutF,hA,hB,h4,h5,hv,if_true,if_false,List.nil_append,List.append_nil,List.append_assoc,List.cons_append] at hcut
      generalize meetP (sideL (nth ps k) (nxt ps k)) l = X at *
      generalize sideL (nth ps k) (nxt ps k) = Y at *
      (refine ⟨⟨(k + 1,.b),by omega,trivial⟩,by (simp; try omega), ?_⟩; constructor <;> (simp (maxSteps:=999999) (disch:=first|exact {}|omega|simp) [zS,hcut,hA,hB,h4,h5,hv,hasN,hh,vaI,vaH,encPs,tk,tk2]) <;> (try omega))
     ·(refine ⟨⟨(k + 1,.n),by omega,by simp [vaOk,cutN,cutF,hA,hB,h4,h5,hv]⟩,by (simp; try omega), ?_⟩; constructor <;> (simp (maxSteps:=999999) (disch:=first|exact {}|omega|simp) [zS,cutN,cutF,hA,hB,h4,h5,h40,hv,hasN,hh,vaI,vaH,encPs,tk,tk2]) <;> (try omega))
   ·(first | refine Gd.dec (fun h4=>?_) (fun h4=>?_) | refine Gd.intro (fun h4=>?_) (fun h4=>?_)) <;> simp (maxSteps:=999999) (disch:=first|exact {}|omega|simp) [zS,h4]
    ·simp (maxSteps:=999999) (disch:=first|exact {}|omega|simp) [zS,h4,w3,lP,lL,mem_encPs,most,big1,big2]
     (first | refine Gd.dec (fun h5=>?_) (fun h5=>?_) | refine Gd.intro (fun h5=>?_) (fun h5=>?_)) <;> simp (maxSteps:=999999) (disch:=first|exact {}|omega|simp) [zS,h5]
     ·obtain ⟨g1,g2,g3⟩:=gk h5
      refine zC (c74 (nth ps k) (nxt ps k) hp hq (by omega) (by omega) g1) ?_
      simp (maxSteps:=999999) (disch:=first|exact {}|omega|simp) [zS,lP,lL]
      refine zC (c75 (sideL (nth ps k) (nxt ps k)) l g3 hl (by omega) (by omega) (sideL_dir _ _).1 (sideL_dir _ _).2 h0 h1 g2) ?_
      simp (maxSteps:=999999) (disch:=first|exact {}|omega|simp) [zS,lP,lL,mem_encPs,most,big1,big2,big3,big4]
      have hcut:cutN l s ps (k + 1) = cutN l s ps k ++ cutF l s (nth ps k) (nxt ps k):=rfl
      simp only [cutF,hA,hB,h4,h5,hv,if_true,if_false,List.nil_append,List.append_nil,List.append_assoc,List.cons_append] at hcut
      generalize meetP (sideL (nth ps k) (nxt ps k)) l = X at *
      generalize sideL (nth ps k) (nxt ps k) = Y at *
      (refine ⟨⟨(k + 1,.a),by omega,trivial⟩,by (simp; try omega), ?_⟩; constructor <;> (simp (maxSteps:=999999) (disch:=first|exact {}|omega|simp) [zS,hcut,hA,hB,h4,h5,hv,hasN,hh,vaI,vaH,encPs,tk,tk2]) <;> (try omega))
     ·(refine ⟨⟨(k + 1,.a),by omega,trivial⟩,by (simp; try omega), ?_⟩; constructor <;> (simp (maxSteps:=999999) (disch:=first|exact {}|omega|simp) [zS,cutN,cutF,hA,hB,h4,h5,hv,hasN,hh,vaI,vaH,encPs,tk,tk2]) <;> (try omega))
    ·have h40:¬ 0 < A:=by omega
     simp (maxSteps:=999999) (disch:=first|exact {}|omega|simp) [zS,h4,w3,lP,lL]
     (first | refine Gd.dec (fun h5=>?_) (fun h5=>?_) | refine Gd.intro (fun h5=>?_) (fun h5=>?_)) <;> simp (maxSteps:=999999) (disch:=first|exact {}|omega|simp) [zS,h5]
     ·obtain ⟨g1,g2,g3⟩:=gk h5
      refine zC (c74 (nth ps k) (nxt ps k) hp hq (by omega) (by omega) g1) ?_
      simp (maxSteps:=999999) (disch:=first|exact {}|omega|simp) [zS,lP,lL]
      refine zC (c75 (sideL (nth ps k) (nxt ps k)) l g3 hl (by omega) (by omega) (sideL_dir _ _).1 (sideL_dir _ _).2 h0 h1 g2) ?_
      simp (maxSteps:=999999) (disch:=first|exact {}|omega|simp) [zS,lP,lL,mem_encPs,most,big1,big2,big3,big4]
      have hcut:cutN l s ps (k + 1) = cutN l s ps k ++ cutF l s (nth ps k) (nxt ps k):=rfl
      simp only [cutF,hA,hB,h4,h5,hv,if_true,if_false,List.nil_append,List.append_nil,List.append_assoc,List.cons_append] at hcut
      generalize meetP (sideL (nth ps k) (nxt ps k)) l = X at *
      generalize sideL (nth ps k) (nxt ps k) = Y at *
      (refine ⟨⟨(k + 1,.b),by omega,trivial⟩,by (simp; try omega), ?_⟩; constructor <;> (simp (maxSteps:=999999) (disch:=first|exact {}|omega|simp) [zS,hcut,hA,hB,h4,h5,hv,hasN,hh,vaI,vaH,encPs,tk,tk2]) <;> (try omega))
     ·(refine ⟨⟨(k + 1,.n),by omega,by simp [vaOk,cutN,cutF,hA,hB,h4,h5,hv]⟩,by (simp; try omega), ?_⟩; constructor <;> (simp (maxSteps:=999999) (disch:=first|exact {}|omega|simp) [zS,cutN,cutF,hA,hB,h4,h5,h40,hv,hasN,hh,vaI,vaH,encPs,tk,tk2]) <;> (try omega))
  | a =>
   simp only [vaOk] at hv
   simp (maxSteps:=999999) (disch:=first|exact {}|omega|simp) [zS,hlt,encPs_get hlt,vaI,vaH,hne,rm,hm0,hm1,hmod,eq2,lP,lL]
   refine zC (c1) ?_
   simp (maxSteps:=999999) (disch:=first|exact {}|omega|simp) [zS,hlt,encPs_get hlt,vaI,vaH,hne,rm,hm0,hm1,hmod,eq2,lP,lL,w1,hA]
   refine zC (c2) ?_
   simp (maxSteps:=999999) (disch:=first|exact {}|omega|simp) [zS,hlt,encPs_get hlt,vaI,vaH,hne,rm,hm0,hm1,hmod,eq2,lP,lL,w2,hA,hB]
   cases hh:hasN l s ps k
   ·(first | refine Gd.dec (fun h4=>?_) (fun h4=>?_) | refine Gd.intro (fun h4=>?_) (fun h4=>?_)) <;> simp (maxSteps:=999999) (disch:=first|exact {}|omega|simp) [zS,h4]
    ·simp (maxSteps:=999999) (disch:=first|exact {}|omega|simp) [zS,h4,w3,lP,lL,mem_encPs,most,big1,big2]
     (first | refine Gd.dec (fun h5=>?_) (fun h5=>?_) | refine Gd.intro (fun h5=>?_) (fun h5=>?_)) <;> simp (maxSteps:=999999) (disch:=first|exact {}|omega|simp) [zS,h5]
     ·obtain ⟨g1,g2,g3⟩:=gk h5
      refine zC (c74 (nth ps k) (nxt ps k) hp hq (by omega) (by omega) g1) ?_
      simp (maxSteps:=999999) (disch:=first|exact {}|omega|simp) [zS,lP,lL]
      refine zC (c75 (sideL (nth ps k) (nxt ps k)) l g3 hl (by omega) (by omega) (sideL_dir _ _).1 (sideL_dir _ _).2 h0 h1 g2) ?_
      simp (maxSteps:=999999) (disch:=first|exact {}|omega|simp) [zS,lP,lL,mem_encPs,most,big1,big2,big3,big4]
      have hcut:cutN l s ps (k + 1) = cutN l s ps k ++ cutF l s (nth ps k) (nxt ps k):=rfl
      simp only [cutF,hA,hB,h4,h5,hv,if_true,if_false,List.nil_append,List.append_nil,List.append_assoc,List.cons_append] at hcut
      generalize meetP (sideL (nth ps k) (nxt ps k)) l = X at *
      generalize sideL (nth ps k) (nxt ps k) = Y at *
      (refine ⟨⟨(k + 1,.a),by omega,trivial⟩,by (simp; try omega), ?_⟩; constructor <;> (simp (maxSteps:=999999) (disch:=first|exact {}|omega|simp) [zS,hcut,hA,hB,h4,h5,hv,hasN,hh,vaI,vaH,encPs,tk,tk2]) <;> (try omega))
     ·(refine ⟨⟨(k + 1,.a),by omega,trivial⟩,by (simp; try omega), ?_⟩; constructor <;> (simp (maxSteps:=999999) (disch:=first|exact {}|omega|simp) [zS,cutN,cutF,hA,hB,h4,h5,hv,hasN,hh,vaI,vaH,encPs,tk,tk2]) <;> (try omega))
    ·have h40:¬ 0 < A:=by omega
     simp (maxSteps:=999999) (disch:=first|exact {}|omega|simp) [zS,h4,w3,lP,lL]
     (first | refine Gd.dec (fun h5=>?_) (fun h5=>?_) | refine Gd.intro (fun h5=>?_) (fun h5=>?_)) <;> simp (maxSteps:=999999) (disch:=first|exact {}|omega|simp) [zS,h5]
     ·obtain ⟨g1,g2,g3⟩:=gk h5
      refine zC (c74 (nth ps k) (nxt ps k) hp hq (by omega) (by omega) g1) ?_
      simp (maxSteps:=999999) (disch:=first|exact {}|omega|simp) [zS,lP,lL]
      refine zC (c75 (sideL (nth ps k) (nxt ps k)) l g3 hl (by omega) (by omega) (sideL_dir _ _).1 (sideL_dir _ _).2 h0 h1 g2) ?_
      simp (maxSteps:=999999) (disch:=first|exact {}|omega|simp) [zS,lP,lL,mem_encPs,most,big1,big2,big3,big4]
      have hcut:cutN l s ps (k + 1) = cutN l s ps k ++ cutF l s (nth ps k) (nxt ps k):=rfl
      simp only [cutF,hA,hB,h4,h5,hv,if_true,if_false,List.nil_append,List.append_nil,List.append_assoc,List.cons_append] at hcut
      generalize meetP (sideL (nth ps k) (nxt ps k)) l = X at *
      generalize sideL (nth ps k) (nxt ps k) = Y at *
      (refine ⟨⟨(k + 1,.a),by omega,trivial⟩,by (simp; try omega), ?_⟩; constructor <;> (simp (maxSteps:=999999) (disch:=first|exact {}|omega|simp) [zS,hcut,hA,hB,h4,h5,hv,hasN,hh,vaI,vaH,encPs,tk,tk2]) <;> (try omega))
     ·(refine ⟨⟨(k + 1,.a),by omega,trivial⟩,by (simp; try omega), ?_⟩; constructor <;> (simp (maxSteps:=999999) (disch:=first|exact {}|omega|simp) [zS,cutN,cutF,hA,hB,h4,h5,h40,hv,hasN,hh,vaI,vaH,encPs,tk,tk2]) <;> (try omega))
   ·(first | refine Gd.dec (fun h4=>?_) (fun h4=>?_) | refine Gd.intro (fun h4=>?_) (fun h4=>?_)) <;> simp (maxSteps:=999999) (disch:=first|exact {}|omega|simp) [zS,h4]
    ·simp (maxSteps:=999999) (disch:=first|exact {}|omega|simp) [zS,h4,w3,lP,lL,mem_encPs,most,big1,big2]
     (first | refine Gd.dec (fun h5=>?_) (fun h5=>?_) | refine Gd.intro (fun h5=>?_) (fun h5=>?_)) <;> simp (maxSteps:=999999) (disch:=first|exact {}|omega|simp) [zS,h5]
     ·obtain ⟨g1,g2,g3⟩:=gk h5
      refine zC (c74 (nth ps k) (nxt ps k) hp hq (by omega) (by omega) g1) ?_
      simp (maxSteps:=999999) (disch:=first|exact {}|omega|simp) [zS,lP,lL]
      refine zC (c75 (sideL (nth ps k) (nxt ps k)) l g3 hl (by omega) (by omega) (sideL_dir _ _).1 (sideL_dir _ _).2 h0 h1 g2) ?_
      simp (maxSteps:=999999) (disch:=first|exact {}|omega|simp) [zS,lP,lL,mem_encPs,most,big1,big2,big3,big4]
      have hcut:cutN l s ps (k + 1) = cutN l s ps k ++ cutF l s (nth ps k) (nxt ps k):=rfl
      simp only [cutF,hA,hB,h4,h5,hv,if_true,if_false,List.nil_append,List.append_nil,List.append_assoc,List.cons_append] at hcut
      generalize meetP (sideL (nth ps k) (nxt ps k)) l = X at *
      generalize sideL (nth ps k) (nxt ps k) = Y at *
      (refine ⟨⟨(k + 1,.a),by omega,trivial⟩,by (simp; try omega), ?_⟩; constructor <;> (simp (maxSteps:=999999) (disch:=first|exact {}|omega|simp) [zS,hcut,hA,hB,h4,h5,hv,hasN,hh,vaI,vaH,encPs,tk,tk2]) <;> (try omega))
     ·(refine ⟨⟨(k + 1,.a),by omega,trivial⟩,by (simp; try omega), ?_⟩; constructor <;> (simp (maxSteps:=999999) (disch:=first|exact {}|omega|simp) [zS,cutN,cutF,hA,hB,h4,h5,hv,hasN,hh,vaI,vaH,encPs,tk,tk2]) <;> (try omega))
    ·have h40:¬ 0 < A:=by omega
     simp (maxSteps:=999999) (disch:=first|exact {}|omega|simp) [zS,h4,w3,lP,lL]
     (first | refine Gd.dec (fun h5=>?_) (fun h5=>?_) | refine Gd.intro (fun h5=>?_) (fun h5=>?_)) <;> simp (maxSteps:=999999) (disch:=first|exact {}|omega|simp) [zS,h5]
     ·obtain ⟨g1,g2,g3⟩:=gk h5
      refine zC (c74 (nth ps k) (nxt ps k) hp hq (by omega) (by omega) g1) ?_
      simp (maxSteps:=999999) (disch:=first|exact {}|omega|simp) [zS,lP,lL]
      refine zC (c75 (sideL (nth ps k) (nxt ps k)) l g3 hl (by omega) (by omega) (sideL_dir _ _).1 (sideL_dir _ _).2 h0 h1 g2) ?_
      simp (maxSteps:=999999) (disch:=first|exact {}|omega|simp) [zS,lP,lL,mem_encPs,most,big1,big2,big3,big4]
      have hcut:cutN l s ps (k + 1) = cutN l s ps k ++ cutF l s (nth ps k) (nxt ps k):=rfl
      simp only [cutF,hA,hB,h4,h5,hv,if_true,if_false,List.nil_append,List.append_nil,List.append_assoc,List.cons_append] at hcut
      generalize meetP (sideL (nth ps k) (nxt ps k)) l = X at *
      generalize sideL (nth ps k) (nxt ps k) = Y at *
      (refine ⟨⟨(k + 1,.a),by omega,trivial⟩,by (simp; try omega), ?_⟩; constructor <;> (simp (maxSteps:=999999) (disch:=first|exact {}|omega|simp) [zS,hcut,hA,hB,h4,h5,hv,hasN,hh,vaI,vaH,encPs,tk,tk2]) <;> (try omega))
     ·(refine ⟨⟨(k + 1,.a),by omega,trivial⟩,by (simp; try omega), ?_⟩; constructor <;> (simp (maxSteps:=999999) (disch:=first|exact {}|omega|simp) [zS,cutN,cutF,hA,hB,h4,h5,h40,hv,hasN,hh,vaI,vaH,encPs,tk,tk2]) <;> (try omega))
  | b =>
   simp only [vaOk] at hv
   simp (maxSteps:=999999) (disch:=first|exact {}|omega|simp) [zS,hlt,encPs_get hlt,vaI,vaH,hne,rm,hm0,hm1,hmod,eq2,lP,lL]
   refine zC (c1) ?_
   simp (maxSteps:=999999) (disch:=first|exact {}|omega|simp) [zS,hlt,encPs_get hlt,vaI,vaH,hne,rm,hm0,hm1,hmod,eq2,lP,lL,w1,hA]
   refine zC (c2) ?_
   simp (maxSteps:=999999) (disch:=first|exact {}|omega|simp) [zS,hlt,encPs_get hlt,vaI,vaH,hne,rm,hm0,hm1,hmod,eq2,lP,lL,w2,hA,hB]
   cases hh:hasN l s ps k
   ·(first | refine Gd.dec (fun h4=>?_) (fun h4=>?_) | refine Gd.intro (fun h4=>?_) (fun h4=>?_)) <;> simp (maxSteps:=999999) (disch:=first|exact {}|omega|simp) [zS,h4]
    ·simp (maxSteps:=999999) (disch:=first|exact {}|omega|simp) [zS,h4,w3,lP,lL,mem_encPs,most,big1,big2]
     (first | refine Gd.dec (fun h5=>?_) (fun h5=>?_) | refine Gd.intro (fun h5=>?_) (fun h5=>?_)) <;> simp (maxSteps:=999999) (disch:=first|exact {}|omega|simp) [zS,h5]
     ·obtain ⟨g1,g2,g3⟩:=gk h5
      refine zC (c74 (nth ps k) (nxt ps k) hp hq (by omega) (by omega) g1) ?_
      simp (maxSteps:=999999) (disch:=first|exact {}|omega|simp) [zS,lP,lL]
      refine zC (c75 (sideL (nth ps k) (nxt ps k)) l g3 hl (by omega) (by omega) (sideL_dir _ _).1 (sideL_dir _ _).2 h0 h1 g2) ?_
      simp (maxSteps:=999999) (disch:=first|exact {}|omega|simp) [zS,lP,lL,mem_encPs,most,big1,big2,big3,big4]
      have hcut:cutN l s ps (k + 1) = cutN l s ps k ++ cutF l s (nth ps k) (nxt ps k):=rfl
      simp only [cutF,hA,hB,h4,h5,hv,if_true,if_false,List.nil_append,List.append_nil,List.append_assoc,List.cons_append] at hcut
      generalize meetP (sideL (nth ps k) (nxt ps k)) l = X at *
      generalize sideL (nth ps k) (nxt ps k) = Y at *
      (refine ⟨⟨(k + 1,.b),by omega,trivial⟩,by (simp; try omega), ?_⟩; constructor <;> (simp (maxSteps:=999999) (disch:=first|exact {}|omega|simp) [zS,hcut,hA,hB,h4,h5,hv,hasN,hh,vaI,vaH,encPs,tk,tk2]) <;> (try omega))
     ·(refine ⟨⟨(k + 1,.b),by omega,trivial⟩,by (simp; try omega), ?_⟩; constructor <;> (simp (maxSteps:=999999) (disch:=first|exact {}|omega|simp) [zS,cutN,cutF,hA,hB,h4,h5,hv,hasN,hh,vaI,vaH,encPs,tk,tk2]) <;> (try omega))
    ·have h40:¬ 0 < A:=by omega
     simp (maxSteps:=999999) (disch:=first|exact {}|omega|simp) [zS,h4,w3,lP,lL]
     (first | refine Gd.dec (fun h5=>?_) (fun h5=>?_) | refine Gd.intro (fun h5=>?_) (fun h5=>?_)) <;> simp (maxSteps:=999999) (disch:=first|exact {}|omega|simp) [zS,h5]
     ·obtain ⟨g1,g2,g3⟩:=gk h5
      refine zC (c74 (nth ps k) (nxt ps k) hp hq (by omega) (by omega) g1) ?_
      simp (maxSteps:=999999) (disch:=first|exact {}|omega|simp) [zS,lP,lL]
      refine zC (c75 (sideL (nth ps k) (nxt ps k)) l g3 hl (by omega) (by omega) (sideL_dir _ _).1 (sideL_dir _ _).2 h0 h1 g2) ?_
      simp (maxSteps:=999999) (disch:=first|exact {}|omega|simp) [zS,lP,lL,mem_encPs,most,big1,big2,big3,big4]
      have hcut:cutN l s ps (k + 1) = cutN l s ps k ++ cutF l s (nth ps k) (nxt ps k):=rfl
      simp only [cutF,hA,hB,h4,h5,hv,if_true,if_false,List.nil_append,List.append_nil,List.append_assoc,List.cons_append] at hcut
      generalize meetP (sideL (nth ps k) (nxt ps k)) l = X at *
      generalize sideL (nth ps k) (nxt ps k) = Y at *
      (refine ⟨⟨(k + 1,.b),by omega,trivial⟩,by (simp; try omega), ?_⟩; constructor <;> (simp (maxSteps:=999999) (disch:=first|exact {}|omega|simp) [zS,hcut,hA,hB,h4,h5,hv,hasN,hh,vaI,vaH,encPs,tk,tk2]) <;> (try omega))
     ·(refine ⟨⟨(k + 1,.b),by omega,trivial⟩,by (simp; try omega), ?_⟩; constructor <;> (simp (maxSteps:=999999) (disch:=first|exact {}|omega|simp) [zS,cutN,cutF,hA,hB,h4,h5,h40,hv,hasN,hh,vaI,vaH,encPs,tk,tk2]) <;> (try omega))
   ·(first | refine Gd.dec (fun h4=>?_) (fun h4=>?_) | refine Gd.intro (fun h4=>?_) (fun h4=>?_)) <;> simp (maxSteps:=999999) (disch:=first|exact {}|omega|simp) [zS,h4]
    ·simp (maxSteps:=999999) (disch:=first|exact {}|omega|simp) [zS,h4,w3,lP,lL,mem_encPs,most,big1,big2]
     (first | refine Gd.dec (fun h5=>?_) (fun h5=>?_) | refine Gd.intro (fun h5=>?_) (fun h5=>?_)) <;> simp (maxSteps:=999999) (disch:=first|exact {}|omega|simp) [zS,h5]
     ·obtain ⟨g1,g2,g3⟩:=gk h5
      refine zC (c74 (nth ps k) (nxt ps k) hp hq (by omega) (by omega) g1) ?_
      simp (maxSteps:=999999) (disch:=first|exact {}|omega|simp) [zS,lP,lL]
      refine zC (c75 (sideL (nth ps k) (nxt ps k)) l g3 hl (by omega) (by omega) (sideL_dir _ _).1 (sideL_dir _ _).2 h0 h1 g2) ?_
      simp (maxSteps:=999999) (disch:=first|exact {}|omega|simp) [zS,lP,lL,mem_encPs,most,big1,big2,big3,big4]
      have hcut:cutN l s ps (k + 1) = cutN l s ps k ++ cutF l s (nth ps k) (nxt ps k):=rfl
      simp only [cutF,hA,hB,h4,h5,hv,if_true,if_false,List.nil_append,List.append_nil,List.append_assoc,List.cons_append] at hcut
      generalize meetP (sideL (nth ps k) (nxt ps k)) l = X at *
      generalize sideL (nth ps k) (nxt ps k) = Y at *
      (refine ⟨⟨(k + 1,.b),by omega,trivial⟩,by (simp; try omega), ?_⟩; constructor <;> (simp (maxSteps:=999999) (disch:=first|exact {}|omega|simp) [zS,hcut,hA,hB,h4,h5,hv,hasN,hh,vaI,vaH,encPs,tk,tk2]) <;> (try omega))
     ·(refine ⟨⟨(k + 1,.b),by omega,trivial⟩,by (simp; try omega), ?_⟩; constructor <;> (simp (maxSteps:=999999) (disch:=first|exact {}|omega|simp) [zS,cutN,cutF,hA,hB,h4,h5,hv,hasN,hh,vaI,vaH,encPs,tk,tk2]) <;> (try omega))
    ·have h40:¬ 0 < A:=by omega
     simp (maxSteps:=999999) (disch:=first|exact {}|omega|simp) [zS,h4,w3,lP,lL]
     (first | refine Gd.dec (fun h5=>?_) (fun h5=>?_) | refine Gd.intro (fun h5=>?_) (fun h5=>?_)) <;> simp (maxSteps:=999999) (disch:=first|exact {}|omega|simp) [zS,h5]
     ·obtain ⟨g1,g2,g3⟩:=gk h5
      refine zC (c74 (nth ps k) (nxt ps k) hp hq (by omega) (by omega) g1) ?_
      simp (maxSteps:=999999) (disch:=first|exact {}|omega|simp) [zS,lP,lL]
      refine zC (c75 (sideL (nth ps k) (nxt ps k)) l g3 hl (by omega) (by omega) (sideL_dir _ _).1 (sideL_dir _ _).2 h0 h1 g2) ?_
      simp (maxSteps:=999999) (disch:=first|exact {}|omega|simp) [zS,lP,lL,mem_encPs,most,big1,big2,big3,big4]
      have hcut:cutN l s ps (k + 1) = cutN l s ps k ++ cutF l s (nth ps k) (nxt ps k):=rfl
      simp only [cutF,hA,hB,h4,h5,hv,if_true,if_false,List.nil_append,List.append_nil,List.append_assoc,List.cons_append] at hcut
      generalize meetP (sideL (nth ps k) (nxt ps k)) l = X at *
      generalize sideL (nth ps k) (nxt ps k) = Y at *
      (refine ⟨⟨(k + 1,.b),by omega,trivial⟩,by (simp; try omega), ?_⟩; constructor <;> (simp (maxSteps:=999999) (disch:=first|exact {}|omega|simp) [zS,hcut,hA,hB,h4,h5,hv,hasN,hh,vaI,vaH,encPs,tk,tk2]) <;> (try omega))
     ·(refine ⟨⟨(k + 1,.b),by omega,trivial⟩,by (simp; try omega), ?_⟩; constructor <;> (simp (maxSteps:=999999) (disch:=first|exact {}|omega|simp) [zS,cutN,cutF,hA,hB,h4,h5,h40,hv,hasN,hh,vaI,vaH,encPs,tk,tk2]) <;> (try omega))
 ·obtain rfl:k = ps.length:=by omega
  have hcl:=cutN_len l s ps ps.length
  have hpb:=cutN_PB h hl h0 h1 hg hM ps.length (Nat.le_refl _)
  have hrot:=c229 (cutN l s ps ps.length) hpb (by omega) (by omega) (by omega)
  have htk:List.take (cutN l s ps ps.length).length (encPs (cutN l s ps ps.length)) = encPs (cutN l s ps ps.length):=List.take_of_length_le (by simp)
  have htk2:List.take (rot0 (cutN l s ps ps.length)).length (encPs (rot0 (cutN l s ps ps.length))) = encPs (rot0 (cutN l s ps ps.length)):=List.take_of_length_le (by simp)
  cases v with
  | n =>
   simp only [vaOk] at hv
   rw [hv] at hrot
   cases hh:hasN l s ps ps.length
   ·simp (maxSteps:=999999) (disch:=first|exact {}|omega|simp) [zS,vaI,vaH,hh,partR,encPs]
   ·simp (maxSteps:=999999) (disch:=first|exact {}|omega|simp) [zS,vaI,vaH,hh]
    refine zC (hrot) ?_
    simp (maxSteps:=999999) (disch:=first|exact {}|omega|simp) [zS,partR,hh,hv,rot0,encPs]
  | a =>
   cases hh:hasN l s ps ps.length
   ·simp (maxSteps:=999999) (disch:=first|exact {}|omega|simp) [zS,vaI,vaH,hh,partR,encPs]
   ·simp (maxSteps:=999999) (disch:=first|exact {}|omega|simp) [zS,vaI,vaH,hh,htk]
    refine zC (hrot) ?_
    simp (maxSteps:=999999) (disch:=first|exact {}|omega|simp) [zS,partR,hh,htk2]
  | b =>
   cases hh:hasN l s ps ps.length
   ·simp (maxSteps:=999999) (disch:=first|exact {}|omega|simp) [zS,vaI,vaH,hh,partR,encPs]
   ·simp (maxSteps:=999999) (disch:=first|exact {}|omega|simp) [zS,vaI,vaH,hh,htk]
    refine zC (hrot) ?_
    simp (maxSteps:=999999) (disch:=first|exact {}|omega|simp) [zS,partR,hh,htk2]
end Go.Vai
namespace Go.Vai
def sideS (p q:Pt):Int:=if dirR (pminus q p) < 8 then 1 else -1
theorem sideS_or (p q:Pt):sideS p q = 1 ∨ sideS p q = -1:=by unfold sideS; split <;> simp
theorem rot0_len (l:List Pt):(rot0 l).length = l.length:=by
 unfold rot0; simp
 by_cases h:l = []
 ·subst h; simp
 ·have:least l < l.length:=leastF_lt (Nat.le_refl _) (List.length_pos_iff.2 h)
  omega
theorem rot0_mem {l:List Pt} {p:Pt} (h:p ∈ rot0 l):p ∈ l:=by
 unfold rot0 at h
 rcases List.mem_append.1 h with h | h
 ·exact List.mem_of_mem_drop h
 ·exact List.mem_of_mem_take h
end Go.Vai
