/- Texts of this claim: Zg1, Zg2, Zg3, Zg4. -/
import Derived.Test.YtiipeibaiphmpaaGreatDoorTb4
import Derived.Test.YtiipeibaiphmpaaGreatDoorTb71
set_option linter.unusedVariables false
set_option linter.unusedSimpArgs false
set_option maxHeartbeats 4000000
namespace Go.Vai
structure Q2 where
 a:Rat
 b:Rat
theorem Q2.ext' {x y:Q2} (h1:x.a = y.a) (h2:x.b = y.b):x = y:=by cases x; cases y; simp_all
namespace Q2
instance:Add Q2:=⟨fun x y=>⟨x.a + y.a,x.b + y.b⟩⟩
instance:Mul Q2:=⟨fun x y=>⟨x.a * y.a + 2 * (x.b * y.b),x.a * y.b + x.b * y.a⟩⟩
instance:Neg Q2:=⟨fun x=>⟨-x.a,-x.b⟩⟩
instance:Sub Q2:=⟨fun x y=>⟨x.a - y.a,x.b - y.b⟩⟩
instance:NatCast Q2:=⟨fun n=>⟨(n:Rat),0⟩⟩
instance:IntCast Q2:=⟨fun n=>⟨(n:Rat),0⟩⟩
instance (n:Nat):OfNat Q2 n:=⟨⟨(n:Rat),0⟩⟩
instance:SMul Nat Q2:=⟨fun n x=>((n:Nat):Q2) * x⟩
instance:SMul Int Q2:=⟨fun n x=>((n:Int):Q2) * x⟩
def pw:Q2 → Nat → Q2
 | _,0=>⟨1,0⟩
 | x,n + 1=>pw x n * x
instance:HPow Q2 Nat Q2:=⟨pw⟩
@[simp] theorem add_a (x y:Q2):(x + y).a = x.a + y.a:=rfl
@[simp] theorem add_b (x y:Q2):(x + y).b = x.b + y.b:=rfl
@[simp] theorem mul_a (x y:Q2):(x * y).a = x.a * y.a + 2 * (x.b * y.b):=rfl
@[simp] theorem mul_b (x y:Q2):(x * y).b = x.a * y.b + x.b * y.a:=rfl
@[simp] theorem neg_a (x:Q2):(-x).a = -x.a:=rfl
@[simp] theorem neg_b (x:Q2):(-x).b = -x.b:=rfl
@[simp] theorem sub_a (x y:Q2):(x - y).a = x.a - y.a:=rfl
@[simp] theorem sub_b (x y:Q2):(x - y).b = x.b - y.b:=rfl
@[simp] theorem ofNat_a (n:Nat):(OfNat.ofNat n:Q2).a = (n:Rat):=rfl
@[simp] theorem ofNat_b (n:Nat):(OfNat.ofNat n:Q2).b = 0:=rfl
@[simp] theorem zero_a:(0:Q2).a = 0:=by show ((0:Nat):Rat) = 0; rfl
@[simp] theorem zero_b:(0:Q2).b = 0:=rfl
@[simp] theorem one_a:(1:Q2).a = 1:=by show ((1:Nat):Rat) = 1; rfl
@[simp] theorem one_b:(1:Q2).b = 0:=rfl
instance:Lean.Grind.CommRing Q2 where
 add_zero x:=Q2.ext' (by simp; grind) (by simp; grind)
 add_comm x y:=Q2.ext' (by simp; grind) (by simp; grind)
 add_assoc x y z:=Q2.ext' (by simp; grind) (by simp; grind)
 mul_assoc x y z:=Q2.ext' (by simp; grind) (by simp; grind)
 mul_one x:=Q2.ext' (by simp; grind) (by simp; grind)
 one_mul x:=Q2.ext' (by simp; grind) (by simp; grind)
 mul_comm x y:=Q2.ext' (by simp; grind) (by simp; grind)
 left_distrib x y z:=Q2.ext' (by simp; grind) (by simp; grind)
 right_distrib x y z:=Q2.ext' (by simp; grind) (by simp; grind)
 zero_mul x:=Q2.ext' (by simp; grind) (by simp; grind)
 mul_zero x:=Q2.ext' (by simp; grind) (by simp; grind)
 pow_zero x:=rfl
 pow_succ x n:=rfl
 neg_add_cancel x:=Q2.ext' (by simp; grind) (by simp; grind)
 sub_eq_add_neg x y:=Q2.ext' (by simp; grind) (by simp; grind)
 ofNat_succ n:=Q2.ext' (by show (((n + 1:Nat)):Rat) = (n:Rat) + ((1:Nat):Rat); simp) (by show (0:Rat) = 0 + 0; grind)
 neg_zsmul i x:=Q2.ext' (by show (((-i:Int)):Rat) * x.a + 2 * (0 * x.b) = -(((i:Int):Rat) * x.a + 2 * (0 * x.b)); grind) (by show (((-i:Int)):Rat) * x.b + 0 * x.a = -(((i:Int):Rat) * x.b + 0 * x.a); grind)
 intCast_neg i:=Q2.ext' (by show (((-i:Int)):Rat) = -((i:Int):Rat); simp) (by show (0:Rat) = -0; grind)
 zsmul_natCast_eq_nsmul n x:=rfl
example (x y z:Q2) (h:x * y = z) (h2:y * z = 1):x * y * y = 1:=by grind
end Q2
end Go.Vai
namespace Go.Vai
def pr (k:Int):Rat:=((pw k:Int):Rat)
theorem pw_pos (k:Int):0 < pw k:=by unfold pw; exact Int.pow_pos (by decide)
theorem pr_ne (k:Int):pr k ≠ 0:=by
 unfold pr
 have:=pw_pos k
 intro h
 have:pw k = 0:=by exact_mod_cast h
 omega
theorem pw_add {a b:Int} (h:0 ≤ a) (h':0 ≤ b):pw (a + b) = pw a * pw b:=by
 unfold pw
 rw [Int.toNat_add h h',Int.pow_add]
theorem pr_add {a b:Int} (h:0 ≤ a) (h':0 ≤ b):pr (a + b) = pr a * pr b:=by
 unfold pr; rw [pw_add h h']; push_cast; rfl
def val (x:Nu):Q2:=⟨x.a / pr x.k,x.b / pr x.k⟩
@[simp] theorem val_zero:val ⟨0,0,0⟩ = 0:=Q2.ext' (by simp [val]; grind) (by simp [val]; grind)
theorem val_scale (a b k:Int) (h:0 ≤ k) (t:Nat):val ⟨a * 2 ^ t,b * 2 ^ t,k + t⟩ = val ⟨a,b,k⟩:=by
 have e:pr (k + t) = pr k * ((2 ^ t:Int):Rat):=by
  rw [pr_add h (by omega)]; congr 1
 have h1:=pr_ne k
 have h2:((2 ^ t:Int):Rat) ≠ 0:=by
  intro hh
  have:(2 ^ t:Int) = 0:=by exact_mod_cast hh
  have:=Int.pow_pos (n:=2) (m:=t) (by decide)
  omega
 apply Q2.ext'
 ·simp only [val,e]; push_cast at *; grind
 ·simp only [val,e]; push_cast at *; grind
theorem val_low {x:Nu} (h:0 ≤ x.k):val (low x) = val x:=by
 unfold low
 split
 ·rename_i hz
  obtain ⟨a,b,k⟩:=x
  simp only at hz
  obtain ⟨rfl,rfl⟩:=hz
  apply Q2.ext' <;> simp [val] <;> grind
 ·obtain ⟨t,h1,h2,h3⟩:=lowF_form x.k.toNat x rfl h
  have hk:0 ≤ (lowF x.k.toNat x).k:=(lowF_k rfl h).1
  have:=val_scale (lowF x.k.toNat x).a (lowF x.k.toNat x).b (lowF x.k.toNat x).k hk t
  rw [← h1,← h2,← h3] at this
  exact this.symm
theorem val_nadd {x y:Nu} (h:0 ≤ x.k) (h':0 ≤ y.k):val (nadd x y) = val x + val y:=by
 unfold nadd
 rw [val_low (by simp only; omega)]
 have e1:pr (max x.k y.k) = pr (max x.k y.k - x.k) * pr x.k:=by rw [← pr_add (by omega) h]; congr 1; omega
 have e2:pr (max x.k y.k) = pr (max x.k y.k - y.k) * pr y.k:=by rw [← pr_add (by omega) h']; congr 1; omega
 have n1:=pr_ne x.k
 have n2:=pr_ne y.k
 have n3:=pr_ne (max x.k y.k)
 apply Q2.ext'
 ·simp only [val,Q2.add_a]
  rw [show ((x.a * pw (max x.k y.k - x.k) + y.a * pw (max x.k y.k - y.k):Int):Rat) = (x.a:Rat) * pr (max x.k y.k - x.k) + (y.a:Rat) * pr (max x.k y.k - y.k) by unfold pr; push_cast; rfl]
  grind
 ·simp only [val,Q2.add_b]
  rw [show ((x.b * pw (max x.k y.k - x.k) + y.b * pw (max x.k y.k - y.k):Int):Rat) = (x.b:Rat) * pr (max x.k y.k - x.k) + (y.b:Rat) * pr (max x.k y.k - y.k) by unfold pr; push_cast; rfl]
  grind
theorem val_nneg (x:Nu):val (nneg x) = -val x:=by
 apply Q2.ext' <;> simp [val,nneg] <;> grind
theorem val_nsub {x y:Nu} (h:0 ≤ x.k) (h':0 ≤ y.k):val (nsub x y) = val x - val y:=by
 unfold nsub
 rw [val_nadd h (show 0 ≤ (nneg y).k from h'),val_nneg]; grind
theorem val_nmul {x y:Nu} (h:0 ≤ x.k) (h':0 ≤ y.k):val (nmul x y) = val x * val y:=by
 unfold nmul
 rw [val_low (by simp only; omega)]
 have e:=pr_add h h'
 have n1:=pr_ne x.k
 have n2:=pr_ne y.k
 apply Q2.ext'
 ·simp only [val,Q2.mul_a,e]; push_cast; grind
 ·simp only [val,Q2.mul_b,e]; push_cast; grind
theorem val_ndiv {x y:Nu} {s:Int} {e:Nat} (h:0 ≤ x.k) (hy:Dv y s e):val (ndiv x y s e) * val y = val x:=by
 unfold ndiv
 rw [val_low (by simp only; omega)]
 have e1:pr (x.k + e) = pr x.k * ((2 ^ e:Int):Rat):=by rw [pr_add h (by omega)]; congr 1
 have hk:=hy.dk
 have e0:pr y.k = 1:=by rw [hk]; rfl
 have n1:=pr_ne x.k
 have n2:((2 ^ e:Int):Rat) ≠ 0:=by
  intro hh
  have:(2 ^ e:Int) = 0:=by exact_mod_cast hh
  have:=Int.pow_pos (n:=2) (m:=e) (by decide)
  omega
 have hs:(s:Rat) * s = 1:=by rcases hy.ds with rfl | rfl <;> grind
 have hn:(y.a:Rat) * y.a - 2 * (y.b * y.b) = s * ((2 ^ e:Int):Rat):=by
  have:=hy.dn
  exact_mod_cast congrArg (fun z:Int=>(z:Rat)) this
 generalize ((2 ^ e:Int):Rat) = w at *
 apply Q2.ext'
 ·simp only [val,Q2.mul_a,e0,e1]; push_cast; grind
 ·simp only [val,Q2.mul_b,e0,e1]; push_cast; grind
theorem val_inj {x y:Nu} (h:0 ≤ x.k) (h':0 ≤ y.k) (hx:low x = x) (hy:low y = y) (he:val x = val y):x = y:=by
 have main:∀ {x y:Nu},0 ≤ x.k → 0 ≤ y.k → low x = x → low y = y → val x = val y → x.k ≤ y.k → x = y:=by
  intro x y h h' hx hy he hk
  obtain ⟨t,ht⟩:∃ t:Nat,y.k = x.k + t:=⟨(y.k - x.k).toNat,by omega⟩
  have e:pr y.k = pr x.k * ((2 ^ t:Int):Rat):=by rw [ht,pr_add h (by omega)]; congr 1
  have n1:=pr_ne x.k
  have n2:=pr_ne y.k
  have ha:(x.a:Rat) / pr x.k = y.a / pr y.k:=congrArg Q2.a he
  have hb:(x.b:Rat) / pr x.k = y.b / pr y.k:=congrArg Q2.b he
  have ha':y.a = x.a * 2 ^ t:=by
   have:(y.a:Rat) = ((x.a * 2 ^ t:Int):Rat):=by
    rw [e] at ha n2
    push_cast at *
    grind
   exact_mod_cast this
  have hb':y.b = x.b * 2 ^ t:=by
   have:(y.b:Rat) = ((x.b * 2 ^ t:Int):Rat):=by
    rw [e] at hb n2
    push_cast at *
    grind
   exact_mod_cast this
  have:=low_scale x.a x.b x.k h t
  rw [← ha',← hb',← ht] at this
  have hyy:(⟨y.a,y.b,y.k⟩:Nu) = y:=rfl
  have hxx:(⟨x.a,x.b,x.k⟩:Nu) = x:=rfl
  rw [hyy,hxx,hx,hy] at this
  exact this.symm
 rcases Int.le_total x.k y.k with hk | hk
 ·exact main h h' hx hy he hk
 ·exact (main h' h hy hx he.symm hk).symm
theorem val_eq_zero {x:Nu}:val x = 0 ↔ x.a = 0 ∧ x.b = 0:=by
 have n1:=pr_ne x.k
 constructor
 ·intro h
  have ha:(x.a:Rat) / pr x.k = 0:=congrArg Q2.a h
  have hb:(x.b:Rat) / pr x.k = 0:=congrArg Q2.b h
  have ha':(x.a:Rat) = 0:=by grind
  have hb':(x.b:Rat) = 0:=by grind
  exact ⟨by exact_mod_cast ha',by exact_mod_cast hb'⟩
 ·rintro ⟨h1,h2⟩
  apply Q2.ext' <;> simp [val,h1,h2] <;> grind
theorem sgn_zero {n:Int}:sgn n = 0 ↔ n = 0:=by
 unfold sgn
 split
 ·constructor <;> intro <;> omega
 ·split
  ·constructor <;> intro <;> omega
  ·constructor <;> intro <;> omega
theorem nsign_zero {x:Nu}:nsign x = 0 ↔ val x = 0:=by
 rw [val_eq_zero]
 unfold nsign
 constructor
 ·intro h
  split at h
  ·rename_i hc
   have h0:=sgn_zero.1 h
   rcases hc with hc | hc
   ·rw [h] at hc; exact ⟨h0,sgn_zero.1 hc.symm⟩
   ·exact ⟨h0,sgn_zero.1 hc⟩
  ·rename_i hc
   split at h
   ·exact absurd (.inr h) hc
   ·rename_i hd
    exact absurd (.inl h) hd
 ·rintro ⟨h1,h2⟩
  simp [h1,h2,sgn]
theorem nsub_zero {x y:Nu} (h:0 ≤ x.k) (h':0 ≤ y.k) (hx:low x = x) (hy:low y = y):nsign (nsub x y) = 0 ↔ x = y:=by
 rw [nsign_zero,val_nsub h h']
 constructor
 ·intro he; exact val_inj h h' hx hy (by grind)
 ·rintro rfl; grind
end Go.Vai
namespace Go.Vai
theorem vec_k (d:Int):0 ≤ (vec d).x.k ∧ 0 ≤ (vec d).y.k:=by
 unfold vec
 rcases Nat.lt_or_ge d.toNat 16 with h | h
 ·generalize d.toNat = n at *
  have:n = 0 ∨ n = 1 ∨ n = 2 ∨ n = 3 ∨ n = 4 ∨ n = 5 ∨ n = 6 ∨ n = 7 ∨ n = 8 ∨ n = 9 ∨ n = 10 ∨ n = 11 ∨ n = 12 ∨ n = 13 ∨ n = 14 ∨ n = 15:=by omega
  rcases this with rfl | rfl | rfl | rfl | rfl | rfl | rfl | rfl | rfl | rfl | rfl | rfl | rfl | rfl | rfl | rfl <;> exact ⟨by decide,by decide⟩
 ·have:vecL.getD d.toNat default = default:=by
   rw [List.getD_eq_getElem?_getD,List.getElem?_eq_none (by simpa [vecL] using h)]; rfl
  rw [this]; exact ⟨by decide,by decide⟩
def PK (p:Pt):Prop:=0 ≤ p.x.k ∧ 0 ≤ p.y.k
theorem PB.pk {K M:Nat} {p:Pt} (h:PB K M p):PK p:=⟨h.1.k0,h.2.k0⟩
theorem nadd_k {x y:Nu} (h:0 ≤ x.k):0 ≤ (nadd x y).k:=(low_k (by simp only; omega)).1
theorem nmul_k {x y:Nu} (h:0 ≤ x.k) (h':0 ≤ y.k):0 ≤ (nmul x y).k:=(low_k (by simp only; omega)).1
theorem nsub_k {x y:Nu} (h:0 ≤ x.k):0 ≤ (nsub x y).k:=nadd_k h
theorem ndot_k {p q:Pt} (h:PK p) (h':PK q):0 ≤ (ndot p q).k:=nadd_k (nmul_k h.1 h'.1)
theorem low_ndot {p q:Pt} (h:PK p) (h':PK q):low (ndot p q) = ndot p q:=low_nadd (nmul_k h.1 h'.1)
theorem val_ndot {p q:Pt} (h:PK p) (h':PK q):val (ndot p q) = val p.x * val q.x + val p.y * val q.y:=by
 unfold ndot
 rw [val_nadd (nmul_k h.1 h'.1) (nmul_k h.2 h'.2),val_nmul h.1 h'.1,val_nmul h.2 h'.2]
theorem val_pcross {p q:Pt} (h:PK p) (h':PK q):val (pcross p q) = val p.x * val q.y - val p.y * val q.x:=by
 unfold pcross
 rw [val_nsub (nmul_k h.1 h'.2) (nmul_k h.2 h'.1),val_nmul h.1 h'.2,val_nmul h.2 h'.1]
theorem pk_minus {p q:Pt} (h:PK p):PK (pminus p q):=⟨nadd_k h.1,nadd_k h.2⟩
structure Lok (l:Li):Prop where
 d0:0 ≤ l.dir
 d1:l.dir ≤ 7
 k0:0 ≤ l.off.k
 lw:low l.off = l.off
def on (l:Li) (p:Pt):Prop:=val (vec (l.dir + 4)).x * val p.x + val (vec (l.dir + 4)).y * val p.y = val l.off
theorem on_eq {l:Li} {p:Pt} (hl:Lok l) (hp:PK p):on l p ↔ ndot (vec (l.dir + 4)) p = l.off:=by
 have hv:=vec_k (l.dir + 4)
 unfold on
 rw [← val_ndot hv hp]
 constructor
 ·intro h; exact val_inj (ndot_k hv hp) hl.k0 (low_ndot hv hp) hl.lw h
 ·intro h; rw [h]
theorem sd_zero {l:Li} {p:Pt} (hl:Lok l) (hp:PK p):sd l p = 0 ↔ on l p:=by
 have hv:=vec_k (l.dir + 4)
 rw [on_eq hl hp]
 exact nsub_zero (ndot_k hv hp) hl.k0 (low_ndot hv hp) hl.lw
theorem lat_on {p:Pt} (d:Int) (hp:PK p):on (lat p d) p:=by
 unfold on lat
 exact (val_ndot (vec_k (d + 4)) hp).symm
theorem lat_ok {p:Pt} {d:Int} (hp:PK p) (h0:0 ≤ d) (h1:d ≤ 7):Lok (lat p d):=⟨h0,h1,ndot_k (vec_k _) hp,low_ndot (vec_k _) hp⟩
theorem det_unit {l m:Li} (hl:Lok l) (hm:Lok m) (hne:l.dir ≠ m.dir):∃ i:Q2,val (detL l m) * i = 1:=by
 have hd:=det_Dv hl.d0 hl.d1 hm.d0 hm.d1 hne
 have h1:val (⟨1,0,0⟩:Nu) = 1:=by apply Q2.ext' <;> simp [val,pr,pw] <;> grind
 have h2:=val_ndiv (x:=⟨1,0,0⟩) (by simp) hd
 exact ⟨val (ndiv ⟨1,0,0⟩ (detL l m) (dvS (detL l m)) (dvE (detL l m))),by grind⟩
theorem meet_k {l m:Li} (hl:Lok l) (hm:Lok m):PK (meetP l m):=by
 have a:=vec_k (l.dir + 4)
 have b:=vec_k (m.dir + 4)
 refine ⟨?_, ?_⟩
 ·show 0 ≤ (ndiv _ _ _ _).k
  unfold ndiv
  exact (low_k (by have:=nadd_k (x:=nmul l.off (vec (m.dir + 4)).y) (y:=nneg (nmul m.off (vec (l.dir + 4)).y)) (nmul_k hl.k0 b.2); simp only [nsub]; omega)).1
 ·show 0 ≤ (ndiv _ _ _ _).k
  unfold ndiv
  exact (low_k (by have:=nadd_k (x:=nmul m.off (vec (l.dir + 4)).x) (y:=nneg (nmul l.off (vec (m.dir + 4)).x)) (nmul_k hm.k0 a.1); simp only [nsub]; omega)).1
theorem meet_on {l m:Li} (hl:Lok l) (hm:Lok m) (hne:l.dir ≠ m.dir):on l (meetP l m) ∧ on m (meetP l m):=by
 have a:=vec_k (l.dir + 4)
 have b:=vec_k (m.dir + 4)
 have hd:=det_Dv hl.d0 hl.d1 hm.d0 hm.d1 hne
 obtain ⟨i,hi⟩:=det_unit hl hm hne
 have hD:val (detL l m) = val (vec (l.dir + 4)).x * val (vec (m.dir + 4)).y - val (vec (l.dir + 4)).y * val (vec (m.dir + 4)).x:=val_pcross a b
 have k1:=nmul_k hl.k0 b.2
 have k2:=nmul_k hm.k0 a.2
 have k3:=nmul_k hm.k0 a.1
 have k4:=nmul_k hl.k0 b.1
 have hx:val (meetP l m).x * val (detL l m) = val l.off * val (vec (m.dir + 4)).y - val m.off * val (vec (l.dir + 4)).y:=by
  show val (ndiv _ _ _ _) * _ = _
  rw [val_ndiv (nsub_k k1) hd,val_nsub k1 k2,val_nmul hl.k0 b.2,val_nmul hm.k0 a.2]
 have hy:val (meetP l m).y * val (detL l m) = val m.off * val (vec (l.dir + 4)).x - val l.off * val (vec (m.dir + 4)).x:=by
  show val (ndiv _ _ _ _) * _ = _
  rw [val_ndiv (nsub_k k3) hd,val_nsub k3 k4,val_nmul hm.k0 a.1,val_nmul hl.k0 b.1]
 unfold on
 generalize val (meetP l m).x = X at *
 generalize val (meetP l m).y = Y at *
 generalize val (detL l m) = D at *
 generalize val (vec (l.dir + 4)).x = p at *
 generalize val (vec (l.dir + 4)).y = q at *
 generalize val (vec (m.dir + 4)).x = r at *
 generalize val (vec (m.dir + 4)).y = s at *
 generalize val l.off = u at *
 generalize val m.off = w at *
 constructor <;> grind
theorem dot_zero {d:Int} (h0:0 ≤ d) (h1:d ≤ 7) {x y:Q2} (hc:val (vec d).x * y - val (vec d).y * x = 0) (hd:val (vec d).x * x + val (vec d).y * y = 0):x = 0 ∧ y = 0:=by
 have hv:=vec_k d
 have hs:=sq_Dv (d:=d) h0 (by omega)
 have h1':val (⟨1,0,0⟩:Nu) = 1:=by apply Q2.ext' <;> simp [val,pr,pw] <;> grind
 have h2:=val_ndiv (x:=⟨1,0,0⟩) (by simp) hs
 rw [val_ndot hv hv,h1'] at h2
 generalize val (ndiv _ _ _ _) = i at *
 generalize val (vec d).x = p at *
 generalize val (vec d).y = q at *
 constructor <;> grind
end Go.Vai
namespace Go.Vai
theorem det2 {i d:Int} (h0:0 ≤ i) (h1:i ≤ 15) (g0:0 ≤ d) (g1:d ≤ 7) (hne:i % 8 ≠ d):Dv (pcross (vec i) (vec d)) (dvS (pcross (vec i) (vec d))) (dvE (pcross (vec i) (vec d))):=by
 rcases dir16 h0 h1 with rfl | rfl | rfl | rfl | rfl | rfl | rfl | rfl | rfl | rfl | rfl | rfl | rfl | rfl | rfl | rfl <;> rcases dir8 g0 g1 with rfl | rfl | rfl | rfl | rfl | rfl | rfl | rfl <;>
  first | exact absurd rfl hne | exact ⟨by decide,by decide,by decide,by decide,by decide,by decide⟩
theorem vec_half {d:Int} (h0:0 ≤ d) (h1:d ≤ 7):vec (d + 8) = ⟨nneg (vec d).x,nneg (vec d).y⟩:=by
 rcases dir8 h0 h1 with rfl | rfl | rfl | rfl | rfl | rfl | rfl | rfl <;> rfl
theorem sgn_neg (n:Int):sgn (-n) = -sgn n:=by
 unfold sgn
 split <;> split <;> (try split) <;> (try split) <;> omega
theorem nsign_neg (x:Nu):nsign (nneg x) = -nsign x:=by
 unfold nsign nneg
 simp only [sgn_neg,Int.neg_mul_neg]
 have e1:(-sgn x.a = -sgn x.b ∨ -sgn x.b = 0) ↔ (sgn x.a = sgn x.b ∨ sgn x.b = 0):=by omega
 have e2:(-sgn x.a = 0 ∨ ¬2 * (x.b * x.b) < x.a * x.a) ↔ (sgn x.a = 0 ∨ ¬2 * (x.b * x.b) < x.a * x.a):=by
  constructor <;> rintro (h | h) <;> first | exact .inr h | exact .inl (by omega)
 simp only [e1,e2]
 split
 ·rfl
 ·split <;> rfl
theorem zero_of {x:Nu} (h:val x = 0) (hl:low x = x):x = ⟨0,0,0⟩:=by
 obtain ⟨h1,h2⟩:=val_eq_zero.1 h
 rw [← hl]; unfold low; rw [if_pos ⟨h1,h2⟩]
theorem low_pcross {p q:Pt} (h:PK p) (h':PK q):low (pcross p q) = pcross p q:=low_nsub (nmul_k h.1 h'.2)
theorem sideL_on {l:Li} {p q:Pt} (hl:Lok l) (hp:PK p) (hq:PK q) (h1:on l p) (h2:on l q) (hne:¬ (val q.x = val p.x ∧ val q.y = val p.y)):0 ≤ dirR (pminus q p) ∧ sideL p q = l:=by
 have hw:PK (pminus q p):=pk_minus hq
 have wx:val (pminus q p).x = val q.x - val p.x:=val_nsub hq.1 hp.1
 have wy:val (pminus q p).y = val q.y - val p.y:=val_nsub hq.2 hp.2
 have hwn:¬ (val (pminus q p).x = 0 ∧ val (pminus q p).y = 0):=by
  rintro ⟨a,b⟩; exact hne ⟨by grind,by grind⟩
 have hv:=vec_k l.dir
 have ht:vec (l.dir + 4) = ⟨nneg (vec l.dir).y,(vec l.dir).x⟩:=by
  have:=vec_turn (d:=l.dir) hl.d0 (by have:=hl.d1; omega)
  rwa [Int.emod_eq_of_lt (by have:=hl.d0; omega) (by have:=hl.d1; omega)] at this
 unfold on at h1 h2
 rw [ht] at h1 h2
 simp only [val_nneg] at h1 h2
 have hc:val (vec l.dir).x * val (pminus q p).y - val (vec l.dir).y * val (pminus q p).x = 0:=by rw [wx,wy]; grind
 generalize hwe:pminus q p = w at *
 have hc0:pcross (vec l.dir) w = ⟨0,0,0⟩:=zero_of (by rw [val_pcross hv hw]; exact hc) (low_pcross hv hw)
 have hd0:nsign (ndot (vec l.dir) w) ≠ 0:=by
  rw [Ne,nsign_zero,val_ndot hv hw]
  intro hz; exact hwn (dot_zero hl.d0 hl.d1 hc hz)
 have hex:∃ j,j < 16 ∧ isDir w j = true:=by
  have e:((l.dir.toNat:Nat):Int) = l.dir:=by have:=hl.d0; omega
  rcases nsign_range (ndot (vec l.dir) w) with hs | hs | hs
  ·refine ⟨l.dir.toNat + 8,by have:=hl.d0; have:=hl.d1; omega, ?_⟩
   have e8:((l.dir.toNat + 8:Nat):Int) = l.dir + 8:=by have:=hl.d0; omega
   have hh:=vec_half hl.d0 hl.d1
   have hv8:=vec_k (l.dir + 8)
   have hc8:pcross (vec (l.dir + 8)) w = ⟨0,0,0⟩:=by
    refine zero_of ?_ (low_pcross hv8 hw)
    rw [val_pcross hv8 hw,hh]
    simp only [val_nneg]; grind
   have hd8:ndot (vec (l.dir + 8)) w = nneg (ndot (vec l.dir) w):=by
    rw [hh]; unfold ndot
    simp only [nmul_neg_l,nneg_nadd]
   unfold isDir
   rw [e8,hc8,hd8,nsign_neg,hs]; simp
  ·exact absurd hs hd0
  ·refine ⟨l.dir.toNat,by have:=hl.d0; have:=hl.d1; omega, ?_⟩
   unfold isDir
   rw [e,hc0,hs]; simp
 obtain ⟨j,hj,hjd⟩:=hex
 have hfind:∃ i,i < 16 ∧ isDir w i = true ∧ dirR w = (i:Int):=by
  unfold dirR
  cases hf:(List.range 16).find? (isDir w) with
  | none =>
   rw [List.find?_eq_none] at hf
   exact absurd hjd (hf j (List.mem_range.2 hj))
  | some i=>exact ⟨i,List.mem_range.1 (List.mem_of_find?_eq_some hf),List.find?_some hf,rfl⟩
 obtain ⟨i,hi,hid,hdr⟩:=hfind
 have hci:pcross (vec i) w = ⟨0,0,0⟩:=by
  unfold isDir at hid
  simp only [Bool.and_eq_true,decide_eq_true_eq] at hid
  exact hid.1
 have hm:(i:Int) % 8 = l.dir:=by
  by_cases hx:(i:Int) % 8 = l.dir
  ·exact hx
  ·exfalso
   have hD:=det2 (i:=(i:Int)) (by omega) (by omega) hl.d0 hl.d1 hx
   have hvi:=vec_k (i:Int)
   have hz:val (pcross (vec i) w) = 0:=by rw [hci]; exact val_zero
   rw [val_pcross hvi hw] at hz
   have h1':val (⟨1,0,0⟩:Nu) = 1:=by apply Q2.ext' <;> simp [val,pr,pw] <;> grind
   have hu:=val_ndiv (x:=⟨1,0,0⟩) (by simp) hD
   rw [h1',val_pcross hvi hv] at hu
   apply hwn
   generalize val (ndiv _ _ _ _) = I at *
   generalize val w.x = X at *
   generalize val w.y = Y at *
   generalize val (vec l.dir).x = a at *
   generalize val (vec l.dir).y = b at *
   generalize val (vec (i:Int)).x = c at *
   generalize val (vec (i:Int)).y = d at *
   constructor <;> grind
 refine ⟨by omega, ?_⟩
 unfold sideL
 rw [hwe,hdr,hm]
 have hon:on l p:=by unfold on; rw [ht]; simp only [val_nneg]; exact h1
 have:=(on_eq hl hp).1 hon
 unfold lat
 rw [this]
end Go.Vai
