/- Texts of this claim: Zp1, Zp2, Zp3. -/
import Derived.Test.YtmgdmldhgphnmaaGreatDoorUb4
set_option linter.unusedVariables false
set_option linter.unusedSimpArgs false
set_option maxHeartbeats 4000000
namespace Go.Vai
theorem c304 (n:Int) (h0:0 ≤ n) (h1:n ≤ 1099511627776):PC E 304 [.esl,.i (.int .i64 n)] [.own 6 []]:=by
 refine PC_start hE Proofs.Tryz.func304 rfl rfl Proofs.Tryz.ntmps304 (by kernel_rfl) (by kernel_rfl) (by simp) ?_
 have w0:IntKind.i64.wrap 0 = 0:=by decide
 have w1:IntKind.i64.wrap n = n:=wrap_i64 (by omega) (by omega)
 have c0:(0:Int) - 0 = 0:=rfl
 simp (maxSteps:=999999) (disch:=first|exact {}|omega|simp) [Lw,Lm,Lt,Lo,Ln,allLen,show ¬ (n < 0) by omega,w0,w1]
 have hm1:n ≤ most:=by unfold most; omega
 have hm2:48 * n ≤ most:=by unfold most; omega
 (first | refine Gd.dec (fun h2=>?_) (fun h2=>?_) | refine Gd.intro (fun h2=>?_) (fun h2=>?_)) <;> simp (maxSteps:=999999) (disch:=first|exact {}|omega|simp) [Lw,Lm,Lt,Lo,Ln,allLen,h2]
def encPs (l:List Pt):List (List IV):=l.map encP
@[simp] theorem encPs_length (l:List Pt):(encPs l).length = l.length:=by simp [encPs]
def encPL (l:List Pt):List IV:=[.sl (encPs l)]
def sumLen (L:List (List Pt)):Nat:=(L.map List.length).sum
theorem sumLen_take {L:List (List Pt)} {k:Nat} (h:k < L.length):sumLen (L.take (k + 1)) = sumLen (L.take k) + L[k].length:=by
 unfold sumLen
 rw [List.take_succ_eq_append_getElem h,List.map_append,List.sum_append]
 simp
theorem sumLen_le (L:List (List Pt)) (k:Nat):sumLen (L.take k) ≤ sumLen L:=by
 have:sumLen L = sumLen (L.take k) + sumLen (L.drop k):=by
  unfold sumLen
  rw [← List.sum_append,← List.map_append,List.take_append_drop]
 omega
theorem flat_take {L:List (List Pt)} {k:Nat} (h:k < L.length):(L.take (k + 1)).flatten = (L.take k).flatten ++ L[k]:=by
 rw [List.take_succ_eq_append_getElem h,List.flatten_append]
 simp
theorem flat_len (L:List (List Pt)):L.flatten.length = sumLen L:=by simp [sumLen,List.length_flatten]
theorem encPs_append (a b:List Pt):encPs (a ++ b) = encPs a ++ encPs b:=by simp [encPs]
theorem take_flat (L:List (List Pt)):(encPs L.flatten).take (sumLen L) = encPs L.flatten:=List.take_of_length_le (by rw [encPs_length,flat_len]; exact Nat.le_refl _)
theorem mem_encPs (l:List Pt):(∀ x ∈ encPs l,x.length = 6) = True:=by
 simp [encPs,encP]
theorem c237 (L:List (List Pt)) (hl:(L.length:Int) ≤ 1048576) (h:(sumLen L:Int) ≤ 1099511627776):PC E 237 [.i (.sl (L.map encPL))] [.own 6 (encPs L.flatten)]:=by
 refine PC_start hE Proofs.Tryz.func237 rfl rfl Proofs.Tryz.ntmps237 (by kernel_rfl) (by kernel_rfl) (by simp) ?_
 simp (maxSteps:=999999) (disch:=first|exact {}|omega|simp) [Lw,Lm,Lt,Lo,Ln,allLen]
 refine XL.by hE (ι:={ k:Nat // k ≤ L.length }) (fun k=>⟨[(0,.i (.sl (L.map encPL))),(3,.i (.int .i64 (sumLen (L.take k.1)))),(9,.i (.sl (L.map encPL))),(10,.i (.int .i64 L.length)),(11,.i (.int .i64 k.1))],[]⟩)
  (fun k=>L.length - k.1) ⟨0,Nat.zero_le _⟩ ⟨by simp [sumLen],by simp,by simp⟩ (by kernel_rfl) ?_
 rintro ⟨k,hk⟩
 have hsk:=sumLen_le L k
 by_cases hlt:k < L.length
 ·have hsk1:=sumLen_le L (k + 1)
  rw [sumLen_take hlt] at hsk1
  have hw:IntKind.i64.wrap ((sumLen (L.take k):Int) + L[k].length) = ((sumLen (L.take k) + L[k].length:Nat):Int):=by rw [wrap_i64 (by omega) (by omega)]; simp
  simp (maxSteps:=999999) (disch:=first|exact {}|omega|simp) [Lw,Lm,Lt,Lo,Ln,allLen,hlt,encPL,hw,show ¬ ((sumLen (L.take k):Int) + L[k].length < 0) by omega]
  (refine ⟨⟨k + 1,by omega⟩,by (simp; try omega), ?_⟩; constructor <;> (simp (maxSteps:=999999) (disch:=first|exact {}|omega|simp) [Lw,Lm,Lt,Lo,Ln,allLen,sumLen_take hlt]) <;> (try omega))
 ·obtain rfl:k = L.length:=by omega
  simp (maxSteps:=999999) (disch:=first|exact {}|omega|simp) [Lw,Lm,Lt,Lo,Ln,allLen]
  refine CallK.of (c304 (sumLen L) (by omega) (by omega)) (by first | exact .inl rfl | exact .inr (by simp)) (by simp) ?_
  simp (maxSteps:=999999) (disch:=first|exact {}|omega|simp) [Lw,Lm,Lt,Lo,Ln,allLen]
  refine XL.by hE (ι:={ k:Nat // k ≤ L.length }) (fun k=>⟨[(6,.own 24 0 (sumLen (L.take k.1))),(25,.i (.sl (L.map encPL))),(26,.i (.int .i64 L.length)),(27,.i (.int .i64 k.1))],[(24,⟨6,encPs (L.take k.1).flatten⟩)]⟩)
   (fun k=>L.length - k.1) ⟨0,Nat.zero_le _⟩ ⟨by simp [sumLen],by simp [encPs],by simp⟩ (by kernel_rfl) ?_
  rintro ⟨k,hk2⟩
  have hsk:=sumLen_le L k
  by_cases hlt:k < L.length
  ·have hsk1:=sumLen_le L (k + 1)
   rw [sumLen_take hlt] at hsk1
   simp (maxSteps:=999999) (disch:=first|exact {}|omega|simp) [Lw,Lm,Lt,Lo,Ln,allLen,hlt,encPL,mem_encPs,most,show (sumLen (L.take k):Int) + L[k].length ≤ 140737488355328 by omega,show ((sumLen (L.take k):Int) + L[k].length) * 48 ≤ 140737488355328 by omega]
   (refine ⟨⟨k + 1,by omega⟩,by (simp; try omega), ?_⟩; constructor <;> (simp (maxSteps:=999999) (disch:=first|exact {}|omega|simp) [Lw,Lm,Lt,Lo,Ln,allLen,sumLen_take hlt,flat_take hlt,encPs_append,take_flat]) <;> (try omega))
  ·obtain rfl:k = L.length:=by omega
   simp (maxSteps:=999999) (disch:=first|exact {}|omega|simp) [Lw,Lm,Lt,Lo,Ln,allLen,take_flat]
end Go.Vai
namespace Go.Vai
def ncmp (x y:Nu):Int:=nsign (nsub x y)
def pcmp (p q:Pt):Int:=if ncmp p.x q.x = 0 then ncmp p.y q.y else ncmp p.x q.x
theorem c189 (x y:Nu) {K M M':Nat} (h:NB K M x) (h':NB K M' y) (hK:K ≤ 60) (hM:M + M' ≤ 4611686018427387904):PC E 189 [.agg (encN x),.agg (encN y)] [.i (.int .i64 (ncmp x y))]:=by
 refine PC_start hE Proofs.Tryz.func189 rfl rfl Proofs.Tryz.ntmps189 (by kernel_rfl) (by kernel_rfl) (by simp) ?_
 simp (maxSteps:=999999) (disch:=first|exact {}|omega|simp) [Lw,Lm,Lt,Lo,Ln,allLen]
 refine CallK.of (c178 x y h h' hK hM) (by first | exact .inl rfl | exact .inr (by simp)) (by simp) ?_
 simp (maxSteps:=999999) (disch:=first|exact {}|omega|simp) [Lw,Lm,Lt,Lo,Ln,allLen]
 have hs:=h.sub h'
 refine CallK.of (c179 _ (hs.i64 hM hK) (hs.ne hM).1 (hs.ne hM).2) (by first | exact .inl rfl | exact .inr (by simp)) (by simp) ?_
 simp (maxSteps:=999999) (disch:=first|exact {}|omega|simp) [Lw,Lm,Lt,Lo,Ln,allLen,ncmp]
theorem c93 (p q:Pt) {K M M':Nat} (h:PB K M p) (h':PB K M' q) (hK:K ≤ 60) (hM:M + M' ≤ 4611686018427387904):PC E 93 [.agg (encP p),.agg (encP q)] [.i (.int .i64 (pcmp p q))]:=by
 refine PC_start hE Proofs.Tryz.func93 rfl rfl Proofs.Tryz.ntmps93 (by kernel_rfl) (by kernel_rfl) (by simp) ?_
 simp (maxSteps:=999999) (disch:=first|exact {}|omega|simp) [Lw,Lm,Lt,Lo,Ln,allLen,encP]
 refine CallK.of (c189 p.x q.x h.1 h'.1 hK hM) (by first | exact .inl rfl | exact .inr (by simp)) (by simp) ?_
 simp (maxSteps:=999999) (disch:=first|exact {}|omega|simp) [Lw,Lm,Lt,Lo,Ln,allLen]
 (first | refine Gd.dec (fun h1=>?_) (fun h1=>?_) | refine Gd.intro (fun h1=>?_) (fun h1=>?_)) <;> simp (maxSteps:=999999) (disch:=first|exact {}|omega|simp) [Lw,Lm,Lt,Lo,Ln,allLen,h1]
 ·refine CallK.of (c189 p.y q.y h.2 h'.2 hK hM) (by first | exact .inl rfl | exact .inr (by simp)) (by simp) ?_
  simp (maxSteps:=999999) (disch:=first|exact {}|omega|simp) [Lw,Lm,Lt,Lo,Ln,allLen,pcmp,h1]
 ·simp (maxSteps:=999999) (disch:=first|exact {}|omega|simp) [Lw,Lm,Lt,Lo,Ln,allLen,pcmp,h1]
def sideL (p q:Pt):Li:=lat p (dirR (pminus q p) % 8)
theorem c88 (p q:Pt) {K M M':Nat} (h:PB K M p) (h':PB K M' q) (hK:K ≤ 60) (hM:6 * (M' + M) ≤ 4611686018427387904) (hd:0 ≤ dirR (pminus q p)) :
  PC E 88 [.agg (encP p),.agg (encP q)] [.agg (encLi (sideL p q)),.i (.bool (decide (dirR (pminus q p) < 8)))]:=by
 refine PC_start hE Proofs.Tryz.func88 rfl rfl Proofs.Tryz.ntmps88 (by kernel_rfl) (by kernel_rfl) (by simp) ?_
 have hr:=dirR_range (pminus q p)
 simp (maxSteps:=999999) (disch:=first|exact {}|omega|simp) [Lw,Lm,Lt,Lo,Ln,allLen]
 refine CallK.of (c180 p q h' h hK hM) (by first | exact .inl rfl | exact .inr (by simp)) (by simp) ?_
 simp (maxSteps:=999999) (disch:=first|exact {}|omega|simp) [Lw,Lm,Lt,Lo,Ln,allLen,tmod8 hd]
 refine CallK.of (c181 p (dirR (pminus q p) % 8) h hK (by omega) (by omega) (by omega)) (by first | exact .inl rfl | exact .inr (by simp)) (by simp) ?_
 simp (maxSteps:=999999) (disch:=first|exact {}|omega|simp) [Lw,Lm,Lt,Lo,Ln,allLen,sideL]
def dvS (y:Nu):Int:=if y.a * y.a - 2 * (y.b * y.b) < 0 then -1 else 1
def dvE (y:Nu):Nat:=let n:=(y.a * y.a - 2 * (y.b * y.b)).natAbs; if n = 1 then 0 else if n = 2 then 1 else if n = 4 then 2 else 3
def detL (l m:Li):Nu:=pcross (vec (l.dir + 4)) (vec (m.dir + 4))
theorem det_Dv {l m:Li} (h0:0 ≤ l.dir) (h1:l.dir ≤ 7) (g0:0 ≤ m.dir) (g1:m.dir ≤ 7) (hne:l.dir ≠ m.dir):Dv (detL l m) (dvS (detL l m)) (dvE (detL l m)):=by
 unfold detL
 generalize l.dir = d at *
 generalize m.dir = e at *
 rcases dir8 h0 h1 with rfl | rfl | rfl | rfl | rfl | rfl | rfl | rfl <;> rcases dir8 g0 g1 with rfl | rfl | rfl | rfl | rfl | rfl | rfl | rfl <;>
  first | exact absurd rfl hne | exact ⟨by decide,by decide,by decide,by decide,by decide,by decide⟩
def over (x det:Nu):Nu:=ndiv x det (dvS det) (dvE det)
def meetP (l m:Li):Pt:=⟨over (nsub (nmul l.off (vec (m.dir + 4)).y) (nmul m.off (vec (l.dir + 4)).y)) (detL l m),over (nsub (nmul m.off (vec (l.dir + 4)).x) (nmul l.off (vec (m.dir + 4)).x)) (detL l m)⟩
theorem NB.vecm {K M:Nat} {x:Nu} (h:NB K M x) {v:Nu} (hv:NB 0 1 v):NB K (3 * M) (nmul x v):=by
 have:=h.mul hv; simpa using this
theorem meet_PB {l m:Li} {K M:Nat} (h:NB K M l.off) (h':NB K M m.off) (h0:0 ≤ l.dir) (h1:l.dir ≤ 7) (g0:0 ≤ m.dir) (g1:m.dir ≤ 7) (hne:l.dir ≠ m.dir):PB (K + 3) (576 * M) (meetP l m):=by
 have hl:=vec_PB (d:=l.dir + 4) (by omega) (by omega)
 have hm:=vec_PB (d:=m.dir + 4) (by omega) (by omega)
 have hd:=det_Dv h0 h1 g0 g1 hne
 exact ⟨(((h.vecm hm.2).sub (h'.vecm hl.2)).div hd).mono (by omega),(((h'.vecm hl.1).sub (h.vecm hm.1)).div hd).mono (by omega)⟩
theorem c89 (l m:Li) {K M:Nat} (h:NB K M l.off) (h':NB K M m.off) (hK:K ≤ 50) (hM:576 * M ≤ 4611686018427387904) (h0:0 ≤ l.dir) (h1:l.dir ≤ 7) (g0:0 ≤ m.dir) (g1:m.dir ≤ 7) (hne:l.dir ≠ m.dir) :
  PC E 89 [.agg (encLi l),.agg (encLi m)] [.agg (encP (meetP l m)),.i (.bool true)]:=by
 refine PC_start hE Proofs.Tryz.func89 rfl rfl Proofs.Tryz.ntmps89 (by kernel_rfl) (by kernel_rfl) (by simp) ?_
 have hl:=vec_PB (d:=l.dir + 4) (by omega) (by omega)
 have hm:=vec_PB (d:=m.dir + 4) (by omega) (by omega)
 have hd:=det_Dv h0 h1 g0 g1 hne
 simp (maxSteps:=999999) (disch:=first|exact {}|omega|simp) [Lw,Lm,Lt,Lo,Ln,allLen]
 refine CallK.of (c176 l h0 (by omega)) (by first | exact .inl rfl | exact .inr (by simp)) (by simp) ?_
 simp (maxSteps:=999999) (disch:=first|exact {}|omega|simp) [Lw,Lm,Lt,Lo,Ln,allLen]
 refine CallK.of (c176 m g0 (by omega)) (by first | exact .inl rfl | exact .inr (by simp)) (by simp) ?_
 simp (maxSteps:=999999) (disch:=first|exact {}|omega|simp) [Lw,Lm,Lt,Lo,Ln,allLen,encP]
 refine CallK.of (c182 (vec (l.dir + 4)) (vec (m.dir + 4)) hl hm (by decide) (by decide) (by decide)) (by first | exact .inl rfl | exact .inr (by simp)) (by simp) ?_
 simp (maxSteps:=999999) (disch:=first|exact {}|omega|simp) [Lw,Lm,Lt,Lo,Ln,allLen,encP,encLi]
 refine CallK.of (c183 l.off (vec (m.dir + 4)).y h hm.2 (by omega) (by omega) (by omega)) (by first | exact .inl rfl | exact .inr (by simp)) (by simp) ?_
 simp (maxSteps:=999999) (disch:=first|exact {}|omega|simp) [Lw,Lm,Lt,Lo,Ln,allLen,encP,encLi]
 refine CallK.of (c183 m.off (vec (l.dir + 4)).y h' hl.2 (by omega) (by omega) (by omega)) (by first | exact .inl rfl | exact .inr (by simp)) (by simp) ?_
 simp (maxSteps:=999999) (disch:=first|exact {}|omega|simp) [Lw,Lm,Lt,Lo,Ln,allLen]
 refine CallK.of (c178 _ _ (h.vecm hm.2) (h'.vecm hl.2) (by omega) (by omega)) (by first | exact .inl rfl | exact .inr (by simp)) (by simp) ?_
 simp (maxSteps:=999999) (disch:=first|exact {}|omega|simp) [Lw,Lm,Lt,Lo,Ln,allLen]
 refine CallK.of (c184 _ (detL l m) ((h.vecm hm.2).sub (h'.vecm hl.2)) hd hK (by omega)) (by first | exact .inl rfl | exact .inr (by simp)) (by simp) ?_
 simp (maxSteps:=999999) (disch:=first|exact {}|omega|simp) [Lw,Lm,Lt,Lo,Ln,allLen,encP,encLi]
 refine CallK.of (c183 m.off (vec (l.dir + 4)).x h' hl.1 (by omega) (by omega) (by omega)) (by first | exact .inl rfl | exact .inr (by simp)) (by simp) ?_
 simp (maxSteps:=999999) (disch:=first|exact {}|omega|simp) [Lw,Lm,Lt,Lo,Ln,allLen,encP,encLi]
 refine CallK.of (c183 l.off (vec (m.dir + 4)).x h hm.1 (by omega) (by omega) (by omega)) (by first | exact .inl rfl | exact .inr (by simp)) (by simp) ?_
 simp (maxSteps:=999999) (disch:=first|exact {}|omega|simp) [Lw,Lm,Lt,Lo,Ln,allLen]
 refine CallK.of (c178 _ _ (h'.vecm hl.1) (h.vecm hm.1) (by omega) (by omega)) (by first | exact .inl rfl | exact .inr (by simp)) (by simp) ?_
 simp (maxSteps:=999999) (disch:=first|exact {}|omega|simp) [Lw,Lm,Lt,Lo,Ln,allLen]
 refine CallK.of (c184 _ (detL l m) ((h'.vecm hl.1).sub (h.vecm hm.1)) hd hK (by omega)) (by first | exact .inl rfl | exact .inr (by simp)) (by simp) ?_
 simp (maxSteps:=999999) (disch:=first|exact {}|omega|simp) [Lw,Lm,Lt,Lo,Ln,allLen,meetP,over,encP,encN]
end Go.Vai
namespace Go.Vai
def nth (l:List Pt) (k:Nat):Pt:=l.getD k ⟨⟨0,0,0⟩,⟨0,0,0⟩⟩
theorem nth_eq {l:List Pt} {k:Nat} (h:k < l.length):nth l k = l[k]:=by simp [nth,h]
theorem nth_mem {l:List Pt} {k:Nat} (h:k < l.length):nth l k ∈ l:=by rw [nth_eq h]; exact List.getElem_mem h
theorem encPs_get {l:List Pt} {k:Nat} (h:k < l.length):(encPs l)[k]? = some (encP (nth l k)):=by simp [encPs,nth_eq h,h]
theorem flat_encP (p:Pt):flatC (encP p):=by
 intro x hx
 simp only [encP,List.mem_cons,List.not_mem_nil,or_false] at hx
 rcases hx with rfl | rfl | rfl | rfl | rfl | rfl <;> rfl
@[simp] theorem flat_encPs (l:List Pt):(∀ el,el ∈ encPs l → flatC el) = True:=by
 simp only [eq_iff_iff,iff_true]
 intro el he
 obtain ⟨p,-,rfl⟩:=List.mem_map.1 he
 exact flat_encP p
theorem encPs_drop (l:List Pt) (k:Nat):(encPs l).drop k = encPs (l.drop k):=by simp [encPs]
theorem encPs_take (l:List Pt) (k:Nat):(encPs l).take k = encPs (l.take k):=by simp [encPs]
def leastF (l:List Pt):Nat → Nat
 | 0=>0
 | k + 1=>if pcmp (nth l k) (nth l (leastF l k)) < 0 then k else leastF l k
theorem leastF_lt {l:List Pt}:∀ {k:Nat},k ≤ l.length → 0 < l.length → leastF l k < l.length
 | 0,_,h=>h
 | k + 1,h,h0=>by
  unfold leastF
  split
  ·omega
  ·exact leastF_lt (by omega) h0
def least (l:List Pt):Nat:=leastF l l.length
theorem c236 (l:List Pt) {K M:Nat} (h:∀ p ∈ l,PB K M p) (hK:K ≤ 60) (hM:M + M ≤ 4611686018427387904) (hl:(l.length:Int) ≤ 1099511627776):PC E 236 [.i (.sl (encPs l))] [.i (.int .i64 (least l))]:=by
 refine PC_start hE Proofs.Tryz.func236 rfl rfl Proofs.Tryz.ntmps236 (by kernel_rfl) (by kernel_rfl) (by simp) ?_
 simp (maxSteps:=999999) (disch:=first|exact {}|omega|simp) [Lw,Lm,Lt,Lo,Ln,allLen]
 refine XL.by hE (ι:={ k:Nat // k ≤ l.length }) (fun k=>⟨[(0,.i (.sl (encPs l))),(3,.i (.int .i64 (leastF l k.1))),(6,.i (.sl (encPs l))),(7,.i (.int .i64 l.length)),(8,.i (.int .i64 k.1))],[]⟩)
  (fun k=>l.length - k.1) ⟨0,Nat.zero_le _⟩ ⟨by simp [leastF],by simp,by simp⟩ (by kernel_rfl) ?_
 rintro ⟨k,hk⟩
 by_cases hlt:k < l.length
 ·have hlk:=leastF_lt hk (by omega)
  simp (maxSteps:=999999) (disch:=first|exact {}|omega|simp) [Lw,Lm,Lt,Lo,Ln,allLen,hlt,hlk,encPs_get hlt,encPs_get hlk]
  refine CallK.of (c93 (nth l k) (nth l (leastF l k)) (h _ (nth_mem hlt)) (h _ (nth_mem hlk)) hK hM) (by first | exact .inl rfl | exact .inr (by simp)) (by simp) ?_
  simp (maxSteps:=999999) (disch:=first|exact {}|omega|simp) [Lw,Lm,Lt,Lo,Ln,allLen]
  (first | refine Gd.dec (fun hc=>?_) (fun hc=>?_) | refine Gd.intro (fun hc=>?_) (fun hc=>?_)) <;> simp (maxSteps:=999999) (disch:=first|exact {}|omega|simp) [Lw,Lm,Lt,Lo,Ln,allLen,hc]
  ·(refine ⟨⟨k + 1,by omega⟩,by (simp; try omega), ?_⟩; constructor <;> (simp (maxSteps:=999999) (disch:=first|exact {}|omega|simp) [Lw,Lm,Lt,Lo,Ln,allLen,leastF,hc]) <;> (try omega))
  ·(refine ⟨⟨k + 1,by omega⟩,by (simp; try omega), ?_⟩; constructor <;> (simp (maxSteps:=999999) (disch:=first|exact {}|omega|simp) [Lw,Lm,Lt,Lo,Ln,allLen,leastF,hc]) <;> (try omega))
 ·obtain rfl:k = l.length:=by omega
  simp (maxSteps:=999999) (disch:=first|exact {}|omega|simp) [Lw,Lm,Lt,Lo,Ln,allLen,least]
def rot0 (l:List Pt):List Pt:=l.drop (least l) ++ l.take (least l)
theorem c136 (l:List Pt) {K M:Nat} (h:∀ p ∈ l,PB K M p) (hK:K ≤ 60) (hM:M + M ≤ 4611686018427387904) (hl:(l.length:Int) ≤ 1099511627776):PC E 136 [.i (.sl (encPs l))] [.own 6 (encPs (rot0 l))]:=by
 refine PC_start hE Proofs.Tryz.func136 rfl rfl Proofs.Tryz.ntmps136 (by kernel_rfl) (by kernel_rfl) (by simp) ?_
 simp (maxSteps:=999999) (disch:=first|exact {}|omega|simp) [Lw,Lm,Lt,Lo,Ln,allLen]
 (first | refine Gd.dec (fun h0=>?_) (fun h0=>?_) | refine Gd.intro (fun h0=>?_) (fun h0=>?_)) <;> simp (maxSteps:=999999) (disch:=first|exact {}|omega|simp) [Lw,Lm,Lt,Lo,Ln,allLen,h0]
 ·subst h0
  simp (maxSteps:=999999) (disch:=first|exact {}|omega|simp) [Lw,Lm,Lt,Lo,Ln,allLen,rot0,encPs]
 ·refine CallK.of (c236 l h hK hM hl) (by first | exact .inl rfl | exact .inr (by simp)) (by simp) ?_
  have hlp:0 < l.length:=List.length_pos_iff.2 h0
  have hlt:least l < l.length:=leastF_lt (Nat.le_refl _) hlp
  have ht:List.take (l.length - least l) (List.drop (least l) (encPs l)) = encPs (l.drop (least l)):=by rw [encPs_drop]; exact List.take_of_length_le (by simp)
  simp (maxSteps:=999999) (disch:=first|exact {}|omega|simp) [Lw,Lm,Lt,Lo,Ln,allLen,hlt,Nat.le_of_lt hlt,mem_encPs,ht,encPs_take]
  refine CallK.of (c237 [l.drop (least l),l.take (least l)] (by simp) (by simp [sumLen]; omega)) (by first | exact .inl rfl | exact .inr (by simp)) (by simp) ?_
  simp (maxSteps:=999999) (disch:=first|exact {}|omega|simp) [Lw,Lm,Lt,Lo,Ln,allLen,rot0]
  exact (List.take_of_length_le (by simp; omega)).symm
end Go.Vai
