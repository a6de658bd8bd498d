/- Texts of this claim: Zn9, Zn10, Zn11, Zn12. -/
import Derived.Test.YtiipeibaiphmpaaGreatDoorTb1
import Derived.Test.YtiipeibaiphmpaaGreatDoorTv5b
set_option linter.unusedVariables false
set_option linter.unusedSimpArgs false
set_option maxHeartbeats 4000000
namespace Go.Vai
@[simp] theorem nneg_nneg (x:Nu):nneg (nneg x) = x:=by simp [nneg]
theorem lowF_neg:∀ (n:Nat) (x:Nu),lowF n (nneg x) = nneg (lowF n x)
 | 0,x=>rfl
 | n + 1,x=>by
  simp only [lowF,nneg]
  have e1:(-x.a % 2 = 0) = (x.a % 2 = 0):=by apply propext; omega
  have e2:(-x.b % 2 = 0) = (x.b % 2 = 0):=by apply propext; omega
  simp only [e1,e2]
  split
  ·rename_i h
   have h1:-x.a / 2 = -(x.a / 2):=by omega
   have h2:-x.b / 2 = -(x.b / 2):=by omega
   rw [h1,h2]
   exact lowF_neg n ⟨x.a / 2,x.b / 2,x.k - 1⟩
  ·rfl
theorem low_neg (x:Nu):low (nneg x) = nneg (low x):=by
 unfold low
 have e:((nneg x).a = 0 ∧ (nneg x).b = 0) = (x.a = 0 ∧ x.b = 0):=by apply propext; simp only [nneg]; omega
 simp only [e]
 split
 ·simp [nneg]
 ·exact lowF_neg _ x
theorem nadd_comm (x y:Nu):nadd x y = nadd y x:=by
 unfold nadd
 rw [Int.max_comm x.k y.k,Int.add_comm (x.a * _),Int.add_comm (x.b * _)]
theorem nneg_nadd (x y:Nu):nneg (nadd x y) = nadd (nneg x) (nneg y):=by
 unfold nadd
 rw [← low_neg]
 simp only [nneg,Int.neg_mul,Int.neg_add]
theorem nmul_neg_l (x y:Nu):nmul (nneg x) y = nneg (nmul x y):=by
 unfold nmul
 rw [← low_neg]
 simp only [nneg,Int.neg_mul,Int.neg_add,Int.mul_neg]
theorem low_scale (a b k:Int) (h:0 ≤ k):∀ t:Nat,low ⟨a * 2 ^ t,b * 2 ^ t,k + t⟩ = low ⟨a,b,k⟩
 | 0=>by simp
 | t + 1=>by
  rw [← low_scale a b k h t]
  have e1:a * 2 ^ (t + 1) = a * 2 ^ t * 2:=by rw [Int.pow_succ,Int.mul_assoc]
  have e2:b * 2 ^ (t + 1) = b * 2 ^ t * 2:=by rw [Int.pow_succ,Int.mul_assoc]
  rw [e1,e2]
  generalize a * 2 ^ t = A
  generalize b * 2 ^ t = B
  have:=low_step (x:=⟨A * 2,B * 2,k + (t + 1:Nat)⟩) (by simp only; omega) (by simp only; omega) (by simp only; omega)
  simp only at this
  rw [← this]
  congr 2 <;> omega
theorem lowF_form:∀ (n:Nat) (x:Nu),n = x.k.toNat → 0 ≤ x.k → ∃ t:Nat,x.a = (lowF n x).a * 2 ^ t ∧ x.b = (lowF n x).b * 2 ^ t ∧ x.k = (lowF n x).k + t
 | 0,x,_,_=>⟨0,by simp [lowF]⟩
 | n + 1,x,h,h0=>by
  simp only [lowF]
  split
  ·rename_i hc
   obtain ⟨t,h1,h2,h3⟩:=lowF_form n ⟨x.a / 2,x.b / 2,x.k - 1⟩ (by simp only; omega) (by simp only; omega)
   simp only at h1 h2 h3
   refine ⟨t + 1, ?_, ?_,by omega⟩
   ·rw [Int.pow_succ,← Int.mul_assoc,← h1]; omega
   ·rw [Int.pow_succ,← Int.mul_assoc,← h2]; omega
  ·exact ⟨0,by simp⟩
theorem low_after {x:Nu} (h:0 ≤ x.k) (s:Int) (e:Nat):low ⟨s * (low x).a,s * (low x).b,(low x).k + e⟩ = low ⟨s * x.a,s * x.b,x.k + e⟩:=by
 by_cases hz:x.a = 0 ∧ x.b = 0
 ·have hl:low x = ⟨0,0,0⟩:=by unfold low; rw [if_pos hz]
  rw [hl,hz.1,hz.2]
  unfold low
  simp
 ·have hl:low x = lowF x.k.toNat x:=by unfold low; rw [if_neg hz]
  obtain ⟨t,h1,h2,h3⟩:=lowF_form x.k.toNat x rfl h
  rw [← hl] at h1 h2 h3
  have hk:=low_k h
  have:=low_scale (s * (low x).a) (s * (low x).b) ((low x).k + e) (by omega) t
  rw [← this]
  conv=>rhs; rw [h1,h2,h3]
  congr 2
  ·exact Int.mul_assoc ..
  ·exact Int.mul_assoc ..
  ·omega
def ndiv (x y:Nu) (s:Int) (e:Nat):Nu:=low ⟨s * (x.a * y.a - 2 * (x.b * y.b)),s * (x.b * y.a - x.a * y.b),x.k + e⟩
structure Dv (y:Nu) (s:Int) (e:Nat):Prop where
 dk:y.k = 0
 da:y.a.natAbs ≤ 4
 db:y.b.natAbs ≤ 4
 ds:s = 1 ∨ s = -1
 de:e ≤ 3
 dn:y.a * y.a - 2 * (y.b * y.b) = s * 2 ^ e
theorem pow_small {e:Nat} (h:e ≤ 3):((2:Int) ^ e = 1 ∨ (2:Int) ^ e = 2 ∨ (2:Int) ^ e = 4 ∨ (2:Int) ^ e = 8):=by
 have:e = 0 ∨ e = 1 ∨ e = 2 ∨ e = 3:=by omega
 rcases this with rfl | rfl | rfl | rfl <;> simp
def nconj (y:Nu):Nu:=⟨y.a,-y.b,0⟩
theorem Dv.nbc {y:Nu} {s:Int} {e:Nat} (h:Dv y s e):NB 0 4 (nconj y):=by
 have h2:=h.da; have h3:=h.db
 exact ⟨by simp [nconj],by simp [nconj],by simpa [nconj] using h2,by simpa [nconj] using h3⟩
theorem tdiv_unit {a s:Int} (h:s = 1 ∨ s = -1):a.tdiv s = s * a:=by
 rcases h with rfl | rfl <;> simp
theorem tmod_unit {a s:Int} (h:s = 1 ∨ s = -1):a.tmod s = 0:=by
 rcases h with rfl | rfl <;> simp
theorem NB.scale {K M:Nat} {x:Nu} (h:NB K M x) {s:Int} (hs:s = 1 ∨ s = -1) {e:Nat}:NB (K + e) M ⟨s * x.a,s * x.b,x.k + e⟩:=by
 have h0:=h.k0; have h1:=h.k1
 have e1:(x.k + (e:Int)).toNat = x.k.toNat + e:=by omega
 have ea:(s * x.a).natAbs = x.a.natAbs:=by rcases hs with rfl | rfl <;> simp
 have eb:(s * x.b).natAbs = x.b.natAbs:=by rcases hs with rfl | rfl <;> simp
 have e2:K + e - (x.k.toNat + e) = K - x.k.toNat:=by omega
 refine ⟨by simp only; omega,by simp only; omega, ?_, ?_⟩
 ·simp only [e1,ea,e2]; exact h.a
 ·simp only [e1,eb,e2]; exact h.b
theorem div_pre (x y:Nu):(⟨x.a * (nconj y).a + 2 * x.b * (nconj y).b,x.a * (nconj y).b + x.b * (nconj y).a,x.k + (nconj y).k⟩:Nu) = ⟨x.a * y.a - 2 * (x.b * y.b),x.b * y.a - x.a * y.b,x.k⟩:=by
 simp only [nconj,Int.mul_neg,Int.add_zero,Int.mul_assoc]
 congr 1
 omega
theorem NB.div {K M:Nat} {x y:Nu} {s:Int} {e:Nat} (h:NB K M x) (hy:Dv y s e):NB (K + 3) (12 * M * 8) (ndiv x y s e):=by
 have h1:=h.pre_mul hy.nbc
 rw [div_pre] at h1
 have h2:=(h1.scale hy.ds (e:=e)).low
 have h3:=h2.up (K':=K + 0 + 3) (by have:=hy.de; omega)
 refine NB.mono (h3:NB (K + 3) _ (ndiv x y s e)) ?_
 have e1:2 ^ (K + 0 + 3 - (K + 0 + e)) ≤ 8:=by
  have:=Nat.pow_le_pow_right (n:=2) (by decide) (show K + 0 + 3 - (K + 0 + e) ≤ 3 by omega)
  simpa using this
 have:=Nat.mul_le_mul (Nat.le_refl (3 * (M * 4))) e1
 omega
def nv (s:Int) (e j:Nat):Int:=s * 2 ^ (e - j)
theorem nv_step {s:Int} {e j:Nat} (h:j < e):nv s e j % 2 = 0 ∧ (nv s e j).tdiv 2 = nv s e (j + 1):=by
 have e1:e - j = (e - (j + 1)) + 1:=by omega
 have e2:nv s e j = nv s e (j + 1) * 2:=by unfold nv; rw [e1,Int.pow_succ,Int.mul_assoc]
 have h0:nv s e j % 2 = 0:=by omega
 exact ⟨h0,by rw [tdiv2 h0]; omega⟩
theorem nv_end (s:Int) (e:Nat):nv s e e = s:=by simp [nv]
theorem nv_bound {s:Int} (hs:s = 1 ∨ s = -1) {e:Nat} (he:e ≤ 3) (j:Nat):-8 ≤ nv s e j ∧ nv s e j ≤ 8:=by
 unfold nv
 have:=pow_small (e:=e - j) (by omega)
 rcases hs with rfl | rfl <;> omega
theorem c145 (x y:Nu) {K M:Nat} {s:Int} {e:Nat} (h:NB K M x) (hy:Dv y s e) (hK:K ≤ 50) (hM:12 * M ≤ 4611686018427387904) :
  PC E 145 [.agg (encN x),.agg (encN y)] [.agg (encN (ndiv x y s e)),.i (.bool true)]:=by
 refine zP hE Proofs.Tryz.func145 Proofs.Tryz.ntmps145 rfl rfl ?_
 have ya:=hy.da; have yb:=hy.db; have yk:=hy.dk
 have hs:=hy.ds; have he:=hy.de
 have m1:=Nat.mul_le_mul ya ya
 have m2:=Nat.mul_le_mul yb yb
 rw [← Int.natAbs_mul] at m1 m2
 have hn:=hy.dn
 have e0:2 * y.b * y.b = 2 * (y.b * y.b):=Int.mul_assoc ..
 have hnz:¬ s * 2 ^ e = 0:=by have:=pow_small he; rcases hs with rfl | rfl <;> omega
 generalize hp1:y.a * y.a = p1 at *
 generalize hp2:y.b * y.b = p2 at *
 simp (maxSteps:=999999) (disch:=first|exact {}|omega|simp) [zS,encN,hp1,e0,hp2,hn,hnz]
 refine zC (c144 x (nconj y) h hy.nbc (by omega) (by omega) (by omega)) ?_
 have ht:nmul x (nconj y) = low ⟨x.a * y.a - 2 * (x.b * y.b),x.b * y.a - x.a * y.b,x.k⟩:=by unfold nmul; rw [div_pre]
 have hb:=h.mul hy.nbc
 have hfin:ndiv x y s e = low ⟨s * (nmul x (nconj y)).a,s * (nmul x (nconj y)).b,(nmul x (nconj y)).k + e⟩:=by
  rw [ht,low_after (x:=⟨x.a * y.a - 2 * (x.b * y.b),x.b * y.a - x.a * y.b,x.k⟩) h.k0]; rfl
 rw [hfin]
 generalize nmul x (nconj y) = w at *
 obtain ⟨wa,wb⟩:=hb.abs
 have wk0:=hb.k0; have wk1:=hb.k1
 clear hn m1 m2 e0 hp1 hp2 hnz ya yb
 simp (maxSteps:=999999) (disch:=first|exact {}|omega|simp) [zS,encN,yk]
 refine XL.by hE (ι:={ j:Nat // j ≤ e }) (fun j=>⟨[(4,.ptr 4 0 0),(6,.i (.int .i64 (nv s e j.1))),(7,.ptr 7 0 0)],[(7,⟨3,[[.int .i64 w.a,.int .i64 w.b,.int .i64 (w.k + j.1)]]⟩),(4,⟨3,[[.int .i64 0,.int .i64 0,.int .i64 0]]⟩)]⟩)
  (fun j=>e - j.1) ⟨0,Nat.zero_le _⟩ ⟨by simp [nv],by simp,by simp⟩ (by kernel_rfl) ?_
 rintro ⟨j,hj⟩
 have hnb:=nv_bound hs he j
 by_cases hlt:j < e
 ·obtain ⟨q1,q2⟩:=nv_step (s:=s) hlt
  have hnc:=nv_bound hs he (j + 1)
  have w1:IntKind.i64.wrap (nv s e (j + 1)) = nv s e (j + 1):=wrap_i64 (by omega) (by omega)
  clear hb wa wb hnc hnb hfin ht
  simp (maxSteps:=999999) (disch:=first|exact {}|omega|simp) [zS,andI_one,q1,q2,w1]
  (refine ⟨⟨j + 1,by omega⟩,by (simp; try omega), ?_⟩; constructor <;> (simp (maxSteps:=999999) (disch:=first|exact {}|omega|simp) [zS]) <;> (try omega))
 ·obtain rfl:j = e:=by omega
  have q0:¬ s % 2 = 0:=by rcases hs with rfl | rfl <;> decide
  have q1:¬ s = 0:=by rcases hs with rfl | rfl <;> decide
  have r1:=tdiv_unit (a:=w.a) hs
  have r2:=tdiv_unit (a:=w.b) hs
  have t1:=tmod_unit (a:=w.a) hs
  have t2:=tmod_unit (a:=w.b) hs
  have n1:¬ (w.k + (j:Int) < 0):=by omega
  have sa:(s * w.a).natAbs = w.a.natAbs:=by rcases hs with rfl | rfl <;> simp
  have sb:(s * w.b).natAbs = w.b.natAbs:=by rcases hs with rfl | rfl <;> simp
  have hi:(⟨s * w.a,s * w.b,w.k + j⟩:Nu).i64:=by unfold Nu.i64; simp only; omega
  generalize hA:s * w.a = A at *
  generalize hB:s * w.b = B at *
  simp (maxSteps:=999999) (disch:=first|exact {}|omega|simp) [zS,nv_end,andI_one,q0,q1,r1,r2,t1,t2,n1]
  refine zC (c214 ⟨A,B,w.k + j⟩ hi (by simp only; omega)) ?_
  simp (maxSteps:=999999) (disch:=first|exact {}|omega|simp) [zS,encN]
theorem c134 (x y:Nu) {K M:Nat} {s:Int} {e:Nat} (h:NB K M x) (hy:Dv y s e) (hK:K ≤ 50) (hM:12 * M ≤ 4611686018427387904) :
  PC E 134 [.agg (encN x),.agg (encN y)] [.agg (encN (ndiv x y s e)),.i (.bool true)]:=by
 refine zP hE Proofs.Tryz.func134 Proofs.Tryz.ntmps134 rfl rfl ?_
 have ya:=hy.da; have yb:=hy.db; have yk:=hy.dk
 have hs:=hy.ds; have he:=hy.de
 have m1:=Nat.mul_le_mul ya ya
 have m2:=Nat.mul_le_mul yb yb
 rw [← Int.natAbs_mul] at m1 m2
 have hn:=hy.dn
 have e0:2 * y.b * y.b = 2 * (y.b * y.b):=Int.mul_assoc ..
 have e1:2 * x.b * y.b = 2 * (x.b * y.b):=Int.mul_assoc ..
 have hnz:¬ s * 2 ^ e = 0:=by have:=pow_small he; rcases hs with rfl | rfl <;> omega
 have hfin:ndiv x y s e = low ⟨s * (x.a * y.a - 2 * (x.b * y.b)),s * (x.b * y.a - x.a * y.b),x.k + e⟩:=rfl
 have hpm:=h.pre_mul hy.nbc
 rw [div_pre] at hpm
 have xk0:=h.k0; have xk1:=h.k1
 obtain ⟨xa,xb⟩:=h.abs
 have o1:=Nat.mul_le_mul xa ya
 have o2:=Nat.mul_le_mul xb yb
 have o3:=Nat.mul_le_mul xb ya
 have o4:=Nat.mul_le_mul xa yb
 rw [← Int.natAbs_mul] at o1 o2 o3 o4
 rw [hfin]
 generalize hp1:y.a * y.a = p1 at *
 generalize hp2:y.b * y.b = p2 at *
 generalize hq1:x.a * y.a = u1 at *
 generalize hq2:x.b * y.b = u2 at *
 generalize hq3:x.b * y.a = u3 at *
 generalize hq4:x.a * y.b = u4 at *
 simp (maxSteps:=999999) (disch:=first|exact {}|omega|simp) [zS,encN,hp1,e0,hp2,hn,hnz,hq1,e1,hq2,hq3,hq4]
 clear hn m1 m2 e0 hp1 hp2 hnz ya yb e1 hq1 hq2 hq3 hq4 xa xb
 refine XL.by hE (ι:={ j:Nat // j ≤ e }) (fun j=>⟨[(3,.ptr 3 0 0),(4,.ptr 4 0 0),(6,.i (.int .i64 (nv s e j.1))),(7,.ptr 7 0 0)],[(7,⟨3,[[.int .i64 (u1 - 2 * u2),.int .i64 (u3 - u4),.int .i64 (x.k + j.1)]]⟩),(3,⟨3,[encN y]⟩),(4,⟨3,[[.int .i64 0,.int .i64 0,.int .i64 0]]⟩)]⟩)
  (fun j=>e - j.1) ⟨0,Nat.zero_le _⟩ ⟨by simp [nv],by simp [encN],by simp⟩ (by kernel_rfl) ?_
 rintro ⟨j,hj⟩
 have hnb:=nv_bound hs he j
 by_cases hlt:j < e
 ·obtain ⟨q1,q2⟩:=nv_step (s:=s) hlt
  have hnc:=nv_bound hs he (j + 1)
  have w1:IntKind.i64.wrap (nv s e (j + 1)) = nv s e (j + 1):=wrap_i64 (by omega) (by omega)
  clear hnc hnb o1 o2 o3 o4 hpm
  simp (maxSteps:=999999) (disch:=first|exact {}|omega|simp) [zS,tmod2,q1,q2,w1]
  (refine ⟨⟨j + 1,by omega⟩,by (simp; try omega), ?_⟩; constructor <;> (simp (maxSteps:=999999) (disch:=first|exact {}|omega|simp) [zS,encN]) <;> (try omega))
 ·obtain rfl:j = e:=by omega
  have q0:¬ s % 2 = 0:=by rcases hs with rfl | rfl <;> decide
  have q1:¬ s = 0:=by rcases hs with rfl | rfl <;> decide
  have r1:=tdiv_unit (a:=u1 - 2 * u2) hs
  have r2:=tdiv_unit (a:=u3 - u4) hs
  have t1:=tmod_unit (a:=u1 - 2 * u2) hs
  have t2:=tmod_unit (a:=u3 - u4) hs
  have sa:(s * (u1 - 2 * u2)).natAbs = (u1 - 2 * u2).natAbs:=by rcases hs with rfl | rfl <;> simp
  have sb:(s * (u3 - u4)).natAbs = (u3 - u4).natAbs:=by rcases hs with rfl | rfl <;> simp
  have hi:(⟨s * (u1 - 2 * u2),s * (u3 - u4),x.k + j⟩:Nu).i64:=by unfold Nu.i64; simp only; omega
  generalize hA:s * (u1 - 2 * u2) = A at *
  generalize hB:s * (u3 - u4) = B at *
  simp (maxSteps:=999999) (disch:=first|exact {}|omega|simp) [zS,nv_end,tmod2,q0,q1,r1,r2,t1,t2,encN,yk]
  refine XL.by hE (ι:=Unit) (fun _=>⟨[(4,.ptr 4 0 0),(7,.ptr 7 0 0),(8,.i (.int .i64 0))],[(7,⟨3,[[.int .i64 A,.int .i64 B,.int .i64 (x.k + j)]]⟩),(4,⟨3,[[.int .i64 0,.int .i64 0,.int .i64 0]]⟩)]⟩)
   (fun _=>0) () ⟨by simp,by simp,by simp⟩ (by kernel_rfl) ?_
  rintro ⟨⟩
  simp (maxSteps:=999999) (disch:=first|exact {}|omega|simp) [zS]
  refine zC (c208 ⟨A,B,x.k + j⟩ hi (by simp only; omega)) ?_
  simp (maxSteps:=999999) (disch:=first|exact {}|omega|simp) [zS,encN]
end Go.Vai
namespace Go.Vai
@[simp] theorem eqlNu (x y:Nu):eqOp E .eql 48 (encN x) (encN y) = some (.i (.bool (decide (x = y)))):=by
 obtain ⟨a,b,k⟩:=x
 obtain ⟨a',b',k'⟩:=y
 simp [encN,eqOp,eqA,eqFs,partA]
def pminus (p q:Pt):Pt:=⟨nsub p.x q.x,nsub p.y q.y⟩
def pcross (p q:Pt):Nu:=nsub (nmul p.x q.y) (nmul p.y q.x)
theorem PB.minus {K M M':Nat} {p q:Pt} (h:PB K M p) (h':PB K M' q):PB K (M + M') (pminus p q):=⟨h.1.sub h'.1,h.2.sub h'.2⟩
theorem PB.cross {K K' M M':Nat} {p q:Pt} (h:PB K M p) (h':PB K' M' q):NB (K + K') (6 * (M * M')) (pcross p q) :=
 ((h.1.mul h'.2).sub (h.2.mul h'.1)).mono (by omega)
theorem PB.mono {K M M':Nat} {p:Pt} (h:PB K M p) (hM:M ≤ M'):PB K M' p:=⟨h.1.mono hM,h.2.mono hM⟩
theorem c213 (p q:Pt) {K M M':Nat} (h:PB K M p) (h':PB K M' q) (hK:K ≤ 60) (hM:M + M' ≤ 4611686018427387904):PC E 213 [.agg (encP p),.agg (encP q)] [.agg (encP (pminus p q))]:=by
 refine zP hE Proofs.Tryz.func213 Proofs.Tryz.ntmps213 rfl rfl ?_
 simp (maxSteps:=999999) (disch:=first|exact {}|omega|simp) [zS,encP]
 refine zC (c139 p.x q.x h.1 h'.1 hK hM) ?_
 simp (maxSteps:=999999) (disch:=first|exact {}|omega|simp) [zS,encP]
 refine zC (c139 p.y q.y h.2 h'.2 hK hM) ?_
 simp (maxSteps:=999999) (disch:=first|exact {}|omega|simp) [zS,encN,pminus]
theorem c143 (p q:Pt) {K K' M M':Nat} (h:PB K M p) (h':PB K' M' q) (hK:K + K' ≤ 60) (hM:6 * (M * M') ≤ 4611686018427387904) (h2:M ≤ 2305843009213693952) :
  PC E 143 [.agg (encP p),.agg (encP q)] [.agg (encN (pcross p q))]:=by
 refine zP hE Proofs.Tryz.func143 Proofs.Tryz.ntmps143 rfl rfl ?_
 simp (maxSteps:=999999) (disch:=first|exact {}|omega|simp) [zS,encP]
 refine zC (c144 p.x q.y h.1 h'.2 hK (by omega) h2) ?_
 simp (maxSteps:=999999) (disch:=first|exact {}|omega|simp) [zS,encP]
 refine zC (c144 p.y q.x h.2 h'.1 hK (by omega) h2) ?_
 simp (maxSteps:=999999) (disch:=first|exact {}|omega|simp) [zS,encP]
 refine zC (c139 (nmul p.x q.y) (nmul p.y q.x) (h.1.mul h'.2) (h.2.mul h'.1) hK (by omega)) ?_
 simp (maxSteps:=999999) (disch:=first|exact {}|omega|simp) [zS,encN,pcross]
theorem c126 (p q:Pt) {K M M':Nat} (h:PB K M p) (h':PB K M' q) (hK:K ≤ 60) (hM:M + M' ≤ 4611686018427387904):PC E 126 [.agg (encP p),.agg (encP q)] [.agg (encP (pminus p q))]:=by
 refine zP hE Proofs.Tryz.func126 Proofs.Tryz.ntmps126 rfl rfl ?_
 simp (maxSteps:=999999) (disch:=first|exact {}|omega|simp) [zS,encP]
 refine zC (c128 p.x q.x h.1 h'.1 hK hM) ?_
 simp (maxSteps:=999999) (disch:=first|exact {}|omega|simp) [zS,encP]
 refine zC (c128 p.y q.y h.2 h'.2 hK hM) ?_
 simp (maxSteps:=999999) (disch:=first|exact {}|omega|simp) [zS,encN,pminus]
def nz (x:Nu):Bool:=decide (x.a = 0) && decide (x.b = 0)
theorem c203 (x:Nu):PC E 203 [.agg (encN x)] [.i (.bool (nz x))]:=by
 refine zP hE Proofs.Tryz.func203 Proofs.Tryz.ntmps203 rfl rfl ?_
 simp (maxSteps:=999999) (disch:=first|exact {}|omega|simp) [zS,encN,nz]
 (first | refine Gd.dec (fun h1=>?_) (fun h1=>?_) | refine Gd.intro (fun h1=>?_) (fun h1=>?_)) <;> simp (maxSteps:=999999) (disch:=first|exact {}|omega|simp) [zS,h1]
theorem vec_turn {d:Int} (h0:0 ≤ d) (h1:d ≤ 15):vec ((d + 4) % 16) = ⟨nneg (vec d).y,(vec d).x⟩:=by
 rcases dir16 h0 h1 with rfl | rfl | rfl | rfl | rfl | rfl | rfl | rfl | rfl | rfl | rfl | rfl | rfl | rfl | rfl | rfl <;> decide
theorem dot_turn {d:Int} (h0:0 ≤ d) (h1:d ≤ 15) (w:Pt):ndot (vec ((d + 4) % 16)) w = pcross (vec d) w:=by
 rw [vec_turn h0 h1]
 unfold ndot pcross nsub
 simp only
 rw [nmul_neg_l,nadd_comm]
theorem nz_low {x:Nu} (h:low x = x):nz x = decide (x = ⟨0,0,0⟩):=by
 rw [Bool.eq_iff_iff]
 simp only [nz,Bool.and_eq_true,decide_eq_true_eq]
 constructor
 ·intro hz
  rw [← h]; unfold low; rw [if_pos hz]
 ·rintro rfl; exact ⟨rfl,rfl⟩
theorem low_nsub {x y:Nu} (h:0 ≤ x.k):low (nsub x y) = nsub x y:=low_nadd h
def isDir (w:Pt) (d:Nat):Bool:=decide (pcross (vec d) w = ⟨0,0,0⟩) && decide (0 < nsign (ndot (vec d) w))
def dirR (w:Pt):Int:=match (List.range 16).find? (isDir w) with
 | some d=>d
 | none=>-1
theorem dirR_at {w:Pt} {d:Nat} (hd:d < 16) (h:isDir w d = true) (hno:∀ j,j < d → isDir w j = false):dirR w = d:=by
 have:(List.range 16).find? (isDir w) = some d:=by
  rw [List.find?_range_eq_some]
  exact ⟨h,by simpa using hd,fun j hj=>by simpa using hno j hj⟩
 simp [dirR,this]
theorem dirR_none {w:Pt} (hno:∀ j,j < 16 → isDir w j = false):dirR w = -1:=by
 have:(List.range 16).find? (isDir w) = none:=by
  rw [List.find?_eq_none]
  intro j hj
  simp [hno j (by simpa using hj)]
 simp [dirR,this]
theorem dirR_range (w:Pt):-1 ≤ dirR w ∧ dirR w ≤ 15:=by
 unfold dirR
 split
 ·rename_i d h
  have:=List.mem_of_find?_eq_some h
  simp at this; omega
 ·omega
theorem not_step {p:Nat → Bool} {k:Nat} (h:∀ j,j < k → p j = false) (hk:p k = false):∀ j,j < k + 1 → p j = false:=fun j hj=>by
 rcases Nat.lt_succ_iff_lt_or_eq.1 hj with h1 | rfl
 ·exact h j h1
 ·exact hk
theorem c141 (p q:Pt) {K M M':Nat} (h:PB K M q) (h':PB K M' p) (hK:K ≤ 60) (hM:6 * (M + M') ≤ 4611686018427387904):PC E 141 [.agg (encP p),.agg (encP q)] [.i (.int .i64 (dirR (pminus q p)))]:=by
 refine zP hE Proofs.Tryz.func141 Proofs.Tryz.ntmps141 rfl rfl ?_
 have hw:=h.minus h'
 simp (maxSteps:=999999) (disch:=first|exact {}|omega|simp) [zS]
 refine zC (c213 q p h h' hK (by omega)) ?_
 simp (maxSteps:=999999) (disch:=first|exact {}|omega|simp) [zS]
 generalize pminus q p = w at *
 refine XL.by hE (ι:={ d:Nat // d ≤ 16 ∧ ∀ j,j < d → isDir w j = false }) (fun d=>⟨[(5,.ptr 5 0 0),(11,.i (.int .i64 d.1))],[(5,⟨6,[encP w]⟩)]⟩)
  (fun d=>16 - d.1) ⟨0,by omega,fun j hj=>by omega⟩ ⟨by simp,by simp,by simp⟩ (by kernel_rfl) ?_
 rintro ⟨d,hd,hno⟩
 by_cases hlt:d < 16
 ·have hlt':(d:Int) < 16:=by omega
  have hv:=vec_PB (d:=(d:Int)) (by omega) (by omega)
  have hdd:=hv.dot hw
  simp only [Nat.zero_add,Nat.one_mul] at hdd
  simp (maxSteps:=999999) (disch:=first|exact {}|omega|simp) [zS,hlt']
  refine zC (c196 (d:Int) (by omega) (by omega)) ?_
  simp (maxSteps:=999999) (disch:=first|exact {}|omega|simp) [zS]
  refine zC (c143 (vec d) w hv hw (by omega) (by omega) (by decide)) ?_
  have e0:([.int .i64 0,.int .i64 0,.int .i64 0]:List IV) = encN ⟨0,0,0⟩:=rfl
  simp (maxSteps:=999999) (disch:=first|exact {}|omega|simp) [zS]
  rw [e0]
  simp (maxSteps:=999999) (disch:=first|exact {}|omega|simp) [zS]
  (first | refine Gd.dec (fun h1=>?_) (fun h1=>?_) | refine Gd.intro (fun h1=>?_) (fun h1=>?_)) <;> simp (maxSteps:=999999) (disch:=first|exact {}|omega|simp) [zS,h1]
  ·refine zC (c138 (vec d) w hv hw (by omega) (by omega) (by decide)) ?_
   simp (maxSteps:=999999) (disch:=first|exact {}|omega|simp) [zS]
   refine zC (c140 _ (hdd.i64 (by omega) (by omega)) (hdd.ne (by omega)).1 (hdd.ne (by omega)).2) ?_
   simp (maxSteps:=999999) (disch:=first|exact {}|omega|simp) [zS]
   (first | refine Gd.dec (fun h2=>?_) (fun h2=>?_) | refine Gd.intro (fun h2=>?_) (fun h2=>?_)) <;> simp (maxSteps:=999999) (disch:=first|exact {}|omega|simp) [zS,h2]
   ·rw [dirR_at hlt (by simp [isDir,h1,h2]) hno]
   ·(refine ⟨⟨d + 1,by omega,not_step hno (by simp [isDir,h2])⟩,by (simp; try omega), ?_⟩; constructor <;> (simp (maxSteps:=999999) (disch:=first|exact {}|omega|simp) [zS]) <;> (try omega))
  ·(refine ⟨⟨d + 1,by omega,not_step hno (by simp [isDir,h1])⟩,by (simp; try omega), ?_⟩; constructor <;> (simp (maxSteps:=999999) (disch:=first|exact {}|omega|simp) [zS]) <;> (try omega))
 ·have hlt':¬ (d:Int) < 16:=by omega
  simp (maxSteps:=999999) (disch:=first|exact {}|omega|simp) [zS,hlt']
  rw [dirR_none fun j hj=>hno j (by omega)]
end Go.Vai
namespace Go.Vai
theorem c125 (w:Pt) {K M:Nat} (hw:PB K M w) (hK:K ≤ 60) (hM:6 * M ≤ 4611686018427387904):PC E 125 [.agg (encP w)] [.i (.int .i64 (dirR w))]:=by
 refine zP hE Proofs.Tryz.func125 Proofs.Tryz.ntmps125 rfl rfl ?_
 simp (maxSteps:=999999) (disch:=first|exact {}|omega|simp) [zS]
 refine XL.by hE (ι:={ d:Nat // d ≤ 16 ∧ ∀ j,j < d → isDir w j = false }) (fun d=>⟨[(1,.ptr 1 0 0),(3,.i (.int .i64 d.1))],[(1,⟨6,[encP w]⟩)]⟩)
  (fun d=>16 - d.1) ⟨0,by omega,fun j hj=>by omega⟩ ⟨by simp,by simp,by simp⟩ (by kernel_rfl) ?_
 rintro ⟨d,hd,hno⟩
 by_cases hlt:d < 16
 ·have hlt':(d:Int) < 16:=by omega
  have hv:=vec_PB (d:=(d:Int)) (by omega) (by omega)
  have hdd:=hv.dot hw
  simp only [Nat.zero_add,Nat.one_mul] at hdd
  have hz:nz (ndot (vec (((d:Int) + 4) % 16)) w) = decide (pcross (vec d) w = ⟨0,0,0⟩):=by
   rw [dot_turn (by omega) (by omega)]
   exact nz_low (low_nsub (hv.1.mul hw.2).k0)
  have hm:((d:Int)) % 16 = d:=by omega
  simp (maxSteps:=999999) (disch:=first|exact {}|omega|simp) [zS,hlt']
  refine zC (c129 ((d:Int) + 4) w hw hK hM (by omega) (by omega)) ?_
  simp (maxSteps:=999999) (disch:=first|exact {}|omega|simp) [zS]
  refine zC (c203 (ndot (vec (((d:Int) + 4) % 16)) w)) ?_
  rw [hz]
  simp (maxSteps:=999999) (disch:=first|exact {}|omega|simp) [zS]
  (first | refine Gd.dec (fun h1=>?_) (fun h1=>?_) | refine Gd.intro (fun h1=>?_) (fun h1=>?_)) <;> simp (maxSteps:=999999) (disch:=first|exact {}|omega|simp) [zS,h1]
  ·refine zC (c129 (d:Int) w hw hK hM (by omega) (by omega)) ?_
   rw [hm]
   simp (maxSteps:=999999) (disch:=first|exact {}|omega|simp) [zS]
   refine zC (c127 _ (hdd.i64 (by omega) (by omega)) (hdd.ne (by omega)).1 (hdd.ne (by omega)).2) ?_
   simp (maxSteps:=999999) (disch:=first|exact {}|omega|simp) [zS]
   (first | refine Gd.dec (fun h2=>?_) (fun h2=>?_) | refine Gd.intro (fun h2=>?_) (fun h2=>?_)) <;> simp (maxSteps:=999999) (disch:=first|exact {}|omega|simp) [zS,h2]
   ·rw [dirR_at hlt (by simp [isDir,h1,h2]) hno]
   ·(refine ⟨⟨d + 1,by omega,not_step hno (by simp [isDir,h2])⟩,by (simp; try omega), ?_⟩; constructor <;> (simp (maxSteps:=999999) (disch:=first|exact {}|omega|simp) [zS]) <;> (try omega))
  ·(refine ⟨⟨d + 1,by omega,not_step hno (by simp [isDir,h1])⟩,by (simp; try omega), ?_⟩; constructor <;> (simp (maxSteps:=999999) (disch:=first|exact {}|omega|simp) [zS]) <;> (try omega))
 ·have hlt':¬ (d:Int) < 16:=by omega
  simp (maxSteps:=999999) (disch:=first|exact {}|omega|simp) [zS,hlt']
  rw [dirR_none fun j hj=>hno j (by omega)]
theorem tmod8 {d:Int} (h:0 ≤ d):d.tmod 8 = d % 8:=Int.tmod_eq_emod_of_nonneg h
end Go.Vai
namespace Go.Vai
def sqE (d:Int):Nat:=if d % 4 = 0 then 0 else if d % 2 = 0 then 2 else 3
theorem sq_Dv {d:Int} (h0:0 ≤ d) (h1:d ≤ 15):Dv (ndot (vec d) (vec d)) 1 (sqE d):=by
 rcases dir16 h0 h1 with rfl | rfl | rfl | rfl | rfl | rfl | rfl | rfl | rfl | rfl | rfl | rfl | rfl | rfl | rfl | rfl <;>
  exact ⟨by decide,by decide,by decide,.inl rfl,by decide,by decide⟩
theorem PB.up {K K' M:Nat} {p:Pt} (h:PB K M p) (hK:K ≤ K'):PB K' (M * 2 ^ (K' - K)) p:=⟨h.1.up hK,h.2.up hK⟩
theorem andI_15 (a:Int):andI .i64 a 15 = a % 16:=by
 unfold andI
 have hb:IntKind.i64.bits = 64:=rfl
 rw [hb]
 have h1:(BitVec.ofInt 64 a &&& BitVec.ofInt 64 15).toNat = (a % 18446744073709551616).toNat % 16:=by
  rw [BitVec.toNat_and]
  have:(BitVec.ofInt 64 15).toNat = 2 ^ 4 - 1:=rfl
  rw [this,Nat.and_two_pow_sub_one_eq_mod,BitVec.toNat_ofInt]
  rfl
 rw [h1,wrap_i64] <;> omega
theorem c135 (p:Pt) (d:Int) {K M:Nat} (h:PB K M p) (hK:K ≤ 60) (hM:6 * M ≤ 4611686018427387904) (h0:-4611686018427387904 ≤ d) (h1:d ≤ 4611686018427387904) :
  PC E 135 [.agg (encP p),.i (.int .i64 d)] [.agg (encLi (lat p (d % 8)))]:=by
 refine zP hE Proofs.Tryz.func135 Proofs.Tryz.ntmps135 rfl rfl ?_
 have e1:(d % 16).tmod 8 = d % 8:=by rw [Int.tmod_eq_emod_of_nonneg (by omega)]; omega
 simp (maxSteps:=999999) (disch:=first|exact {}|omega|simp) [zS]
 refine zC (c157 d h0 h1) ?_
 simp (maxSteps:=999999) (disch:=first|exact {}|omega|simp) [zS,e1]
 refine zC (c129 (d % 8 + 4) p h hK hM (by omega) (by omega)) ?_
 rw [mod16 (d:=d % 8 + 4) (by omega) (by omega)]
 simp (maxSteps:=999999) (disch:=first|exact {}|omega|simp) [zS,encN,encLi,lat]
end Go.Vai
