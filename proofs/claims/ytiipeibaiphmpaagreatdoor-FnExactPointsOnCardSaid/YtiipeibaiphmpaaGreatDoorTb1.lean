/- Texts of this claim: Zn1, Zt0, Zn2, Zn3, Zn4, Zn5, Zn6, Zn7, Zn8. -/
import Derived.Test.YtiipeibaiphmpaaGreatDoorTvE
import Derived.Test.YtiipeibaiphmpaaGreatDoorTv18
set_option linter.unusedVariables false
set_option linter.unusedSimpArgs false
set_option maxHeartbeats 4000000
namespace Go.Vai
def pw (n:Int):Int:=2 ^ n.toNat
theorem andI_one (a:Int):andI .i64 a 1 = a % 2:=by
 unfold andI
 have hb:IntKind.i64.bits = 64:=rfl
 rw [hb]
 have h1:(BitVec.ofInt 64 a &&& BitVec.ofInt 64 1).toNat = (a % 18446744073709551616).toNat % 2:=by
  rw [BitVec.toNat_and]
  have:(BitVec.ofInt 64 1).toNat = 2 ^ 1 - 1:=rfl
  rw [this,Nat.and_two_pow_sub_one_eq_mod,BitVec.toNat_ofInt]
  rfl
 rw [h1,wrap_i64] <;> omega
theorem shlI_pw {a s:Int} (h0:0 ≤ s) (h1:s ≤ 64) (h2:(a * pw s).natAbs ≤ 9223372036854775807):shlI .i64 a s = a * pw s:=by
 unfold shlI
 have e:min s.toNat IntKind.i64.bits = s.toNat:=by
  have:IntKind.i64.bits = 64:=rfl
  rw [this]; omega
 rw [e]
 show IntKind.i64.wrap (a * pw s) = a * pw s
 exact wrap_i64 (by omega) (by omega)
theorem tdiv2 {a:Int} (h:a % 2 = 0):a.tdiv 2 = a / 2:=by
 rw [Int.tdiv_eq_ediv]
 split <;> omega
theorem tmod2 (a:Int):(a.tmod 2 = 0) = (a % 2 = 0):=by
 apply propext
 rw [← Int.dvd_iff_tmod_eq_zero,← Int.dvd_iff_emod_eq_zero]
structure Nu where
 a:Int
 b:Int
 k:Int
 deriving DecidableEq,Inhabited
def encN (x:Nu):List IV:=[.int .i64 x.a,.int .i64 x.b,.int .i64 x.k]
@[simp] theorem encN_len (x:Nu):(encN x).length = 3:=rfl
@[simp] theorem encN_take (x:Nu):(encN x).take 3 = encN x:=rfl
def Nu.i64 (x:Nu):Prop:=(-9223372036854775808 ≤ x.a ∧ x.a ≤ 9223372036854775807) ∧ (-9223372036854775808 ≤ x.b ∧ x.b ≤ 9223372036854775807) ∧ (-9223372036854775808 ≤ x.k ∧ x.k ≤ 9223372036854775807)
def lowF:Nat → Nu → Nu
 | 0,x=>x
 | n + 1,x=>if 0 < x.k ∧ x.a % 2 = 0 ∧ x.b % 2 = 0 then lowF n ⟨x.a / 2,x.b / 2,x.k - 1⟩ else x
def low (x:Nu):Nu:=if x.a = 0 ∧ x.b = 0 then ⟨0,0,0⟩ else lowF x.k.toNat x
theorem low_step {x:Nu} (h:0 < x.k) (ha:x.a % 2 = 0) (hb:x.b % 2 = 0):low ⟨x.a / 2,x.b / 2,x.k - 1⟩ = low x:=by
 unfold low
 by_cases h0:x.a = 0 ∧ x.b = 0
 ·rw [if_pos h0,if_pos (by simp only; omega)]
 ·rw [if_neg h0,if_neg (by simp only; omega)]
  have:x.k.toNat = (x.k - 1).toNat + 1:=by omega
  rw [this]
  simp only [lowF]
  rw [if_pos ⟨h,ha,hb⟩]
theorem low_end {x:Nu} (h:¬ (0 < x.k ∧ x.a % 2 = 0 ∧ x.b % 2 = 0)) (h0:x.a = 0 ∧ x.b = 0 → x.k = 0):low x = x:=by
 unfold low
 split
 ·rename_i hz
  have:=h0 hz
  obtain ⟨a,b,k⟩:=x
  simp only at *
  rw [hz.1,hz.2,this]
 ·cases hk:x.k.toNat with
  | zero=>rfl
  | succ n=>simp only [lowF]; rw [if_neg h]
theorem lowF_k {n:Nat}:∀ {x:Nu},n = x.k.toNat → 0 ≤ x.k → 0 ≤ (lowF n x).k ∧ (lowF n x).k ≤ x.k:=by
 induction n with
 | zero=>intro x h h0; exact ⟨h0,Int.le_refl _⟩
 | succ n ih =>
  intro x h h0
  simp only [lowF]
  split
  ·rename_i hc
   have:=ih (x:=⟨x.a / 2,x.b / 2,x.k - 1⟩) (by simp only; omega) (by simp only; omega)
   simp only at this
   omega
  ·exact ⟨h0,Int.le_refl _⟩
theorem low_k {x:Nu} (h:0 ≤ x.k):0 ≤ (low x).k ∧ (low x).k ≤ x.k:=by
 unfold low
 split
 ·exact ⟨Int.le_refl _,h⟩
 ·exact lowF_k rfl h
structure NB (K M:Nat) (x:Nu):Prop where
 k0:0 ≤ x.k
 k1:x.k.toNat ≤ K
 a:x.a.natAbs * 2 ^ (K - x.k.toNat) ≤ M
 b:x.b.natAbs * 2 ^ (K - x.k.toNat) ≤ M
theorem NB.mono {K M M':Nat} {x:Nu} (h:NB K M x) (hM:M ≤ M'):NB K M' x:=⟨h.k0,h.k1,Nat.le_trans h.a hM,Nat.le_trans h.b hM⟩
theorem NB.up {K K' M:Nat} {x:Nu} (h:NB K M x) (hK:K ≤ K'):NB K' (M * 2 ^ (K' - K)) x:=by
 have e:K' - x.k.toNat = (K - x.k.toNat) + (K' - K):=by have:=h.k1; omega
 refine ⟨h.k0,Nat.le_trans h.k1 hK, ?_, ?_⟩
 ·rw [e,Nat.pow_add,← Nat.mul_assoc]; exact Nat.mul_le_mul_right _ h.a
 ·rw [e,Nat.pow_add,← Nat.mul_assoc]; exact Nat.mul_le_mul_right _ h.b
theorem le_mul_pow (a n:Nat):a ≤ a * 2 ^ n:=Nat.le_mul_of_pos_right _ (Nat.two_pow_pos n)
theorem NB.abs {K M:Nat} {x:Nu} (h:NB K M x):x.a.natAbs ≤ M ∧ x.b.natAbs ≤ M :=
 ⟨Nat.le_trans (le_mul_pow _ _) h.a,Nat.le_trans (le_mul_pow _ _) h.b⟩
theorem NB.lowF {K M:Nat}:∀ (n:Nat) {x:Nu},NB K M x → NB K M (Vai.lowF n x)
 | 0,x,h=>h
 | n + 1,x,h=>by
  simp only [Vai.lowF]
  split
  ·rename_i hc
   refine NB.lowF n ⟨by simp only; omega,by simp only; have:=h.k1; omega, ?_, ?_⟩
   ·have e:K - (x.k - 1).toNat = (K - x.k.toNat) + 1:=by have:=h.k1; omega
    have e2:x.a.natAbs = (x.a / 2).natAbs * 2:=by omega
    have:=h.a
    rw [e2,Nat.mul_assoc,← Nat.pow_succ'] at this
    simp only; rw [e]; exact this
   ·have e:K - (x.k - 1).toNat = (K - x.k.toNat) + 1:=by have:=h.k1; omega
    have e2:x.b.natAbs = (x.b / 2).natAbs * 2:=by omega
    have:=h.b
    rw [e2,Nat.mul_assoc,← Nat.pow_succ'] at this
    simp only; rw [e]; exact this
  ·exact h
theorem NB.low {K M:Nat} {x:Nu} (h:NB K M x):NB K M (Vai.low x):=by
 unfold Vai.low
 split
 ·exact ⟨by simp,by simp,by simp,by simp⟩
 ·exact h.lowF _
def nadd (x y:Nu):Nu:=low ⟨x.a * pw (max x.k y.k - x.k) + y.a * pw (max x.k y.k - y.k),x.b * pw (max x.k y.k - x.k) + y.b * pw (max x.k y.k - y.k),max x.k y.k⟩
def nneg (x:Nu):Nu:=⟨-x.a,-x.b,x.k⟩
def nsub (x y:Nu):Nu:=nadd x (nneg y)
def nmul (x y:Nu):Nu:=low ⟨x.a * y.a + 2 * x.b * y.b,x.a * y.b + x.b * y.a,x.k + y.k⟩
theorem NB.neg {K M:Nat} {x:Nu} (h:NB K M x):NB K M (nneg x):=⟨h.k0,h.k1,by simpa [nneg] using h.a,by simpa [nneg] using h.b⟩
theorem pw_abs (n:Int):(pw n).natAbs = 2 ^ n.toNat:=by simp [pw,Int.natAbs_pow]
theorem shift_le {K k m:Nat} {a:Int} (hk:k ≤ m) (hm:m ≤ K):(a.natAbs * 2 ^ (m - k)) * 2 ^ (K - m) = a.natAbs * 2 ^ (K - k):=by
 rw [Nat.mul_assoc,← Nat.pow_add]; congr 2; omega
theorem NB.shift {K M:Nat} {x:Nu} (h:NB K M x) {m:Int} (h1:x.k ≤ m) (h2:m.toNat ≤ K) :
  (x.a * pw (m - x.k)).natAbs * 2 ^ (K - m.toNat) ≤ M ∧ (x.b * pw (m - x.k)).natAbs * 2 ^ (K - m.toNat) ≤ M:=by
 have h0:=h.k0
 have e:(m - x.k).toNat = m.toNat - x.k.toNat:=by omega
 have e1:x.k.toNat ≤ m.toNat:=by omega
 rw [Int.natAbs_mul,Int.natAbs_mul,pw_abs,e,shift_le e1 h2,shift_le e1 h2]
 exact ⟨h.a,h.b⟩
theorem NB.pre_add {K M M':Nat} {x y:Nu} (h:NB K M x) (h':NB K M' y):NB K (M + M') ⟨x.a * pw (max x.k y.k - x.k) + y.a * pw (max x.k y.k - y.k),x.b * pw (max x.k y.k - x.k) + y.b * pw (max x.k y.k - y.k),max x.k y.k⟩:=by
 have k0:=h.k0; have k0':=h'.k0; have k1:=h.k1; have k1':=h'.k1
 have hm:(max x.k y.k).toNat ≤ K:=by omega
 obtain ⟨a1,b1⟩:=h.shift (m:=max x.k y.k) (by omega) hm
 obtain ⟨a2,b2⟩:=h'.shift (m:=max x.k y.k) (by omega) hm
 refine ⟨by simp only; omega,hm, ?_, ?_⟩
 ·refine Nat.le_trans (Nat.mul_le_mul_right _ (Int.natAbs_add_le _ _)) ?_
  rw [Nat.add_mul]; exact Nat.add_le_add a1 a2
 ·refine Nat.le_trans (Nat.mul_le_mul_right _ (Int.natAbs_add_le _ _)) ?_
  rw [Nat.add_mul]; exact Nat.add_le_add b1 b2
theorem NB.add {K M M':Nat} {x y:Nu} (h:NB K M x) (h':NB K M' y):NB K (M + M') (nadd x y):=(h.pre_add h').low
theorem NB.sub {K M M':Nat} {x y:Nu} (h:NB K M x) (h':NB K M' y):NB K (M + M') (nsub x y):=h.add h'.neg
theorem prod_le {K K' k k' M M':Nat} {a c:Int} (ha:a.natAbs * 2 ^ (K - k) ≤ M) (hc:c.natAbs * 2 ^ (K' - k') ≤ M') (hk:k ≤ K) (hk':k' ≤ K'):(a * c).natAbs * 2 ^ (K + K' - (k + k')) ≤ M * M':=by
 have e:K + K' - (k + k') = (K - k) + (K' - k'):=by omega
 rw [e,Nat.pow_add,Int.natAbs_mul]
 calc a.natAbs * c.natAbs * (2 ^ (K - k) * 2 ^ (K' - k')) = (a.natAbs * 2 ^ (K - k)) * (c.natAbs * 2 ^ (K' - k')):=by ac_rfl
  _ ≤ M * M':=Nat.mul_le_mul ha hc
theorem NB.pre_mul {K K' M M':Nat} {x y:Nu} (h:NB K M x) (h':NB K' M' y):NB (K + K') (3 * (M * M')) ⟨x.a * y.a + 2 * x.b * y.b,x.a * y.b + x.b * y.a,x.k + y.k⟩:=by
 have k0:=h.k0; have k0':=h'.k0; have k1:=h.k1; have k1':=h'.k1
 have e:(x.k + y.k).toNat = x.k.toNat + y.k.toNat:=by omega
 have p1:=prod_le h.a h'.a k1 k1'
 have p2:=prod_le h.b h'.b k1 k1'
 have p3:=prod_le h.a h'.b k1 k1'
 have p4:=prod_le h.b h'.a k1 k1'
 refine ⟨by simp only; omega,by simp only; omega, ?_, ?_⟩
 ·simp only [e]
  refine Nat.le_trans (Nat.mul_le_mul_right _ (Int.natAbs_add_le _ _)) ?_
  rw [Nat.add_mul,Int.mul_assoc,Int.natAbs_mul 2,Nat.mul_assoc]
  have:Int.natAbs 2 = 2:=rfl
  rw [this]; omega
 ·simp only [e]
  refine Nat.le_trans (Nat.mul_le_mul_right _ (Int.natAbs_add_le _ _)) ?_
  rw [Nat.add_mul]; omega
theorem NB.mul {K K' M M':Nat} {x y:Nu} (h:NB K M x) (h':NB K' M' y):NB (K + K') (3 * (M * M')) (nmul x y):=(h.pre_mul h').low
end Go.Vai
namespace Go.Vai
def inB (n lo hi:Int):Bool:=decide (lo ≤ n) && decide (n ≤ hi)
theorem inB_iff {n lo hi:Int}:inB n lo hi = true ↔ lo ≤ n ∧ n ≤ hi:=by simp [inB]
theorem c109 (n lo hi:Int):PC E 109 [.i (.int .i64 n),.i (.int .i64 lo),.i (.int .i64 hi)] [.i (.bool (inB n lo hi))]:=by
 refine zP hE Proofs.Tryz.func109 Proofs.Tryz.ntmps109 rfl rfl ?_
 simp (maxSteps:=999999) (disch:=first|exact {}|omega|simp) [zS,inB]
 (first | refine Gd.dec (fun h1=>?_) (fun h1=>?_) | refine Gd.intro (fun h1=>?_) (fun h1=>?_)) <;> simp (maxSteps:=999999) (disch:=first|exact {}|omega|simp) [zS,h1]
theorem c45 (n lo hi:Int):PC E 45 [.i (.int .i64 n),.i (.int .i64 lo),.i (.int .i64 hi)] [.i (.bool (inB n lo hi))]:=by
 refine zP hE Proofs.Tryz.func45 Proofs.Tryz.ntmps45 rfl rfl ?_
 simp (maxSteps:=999999) (disch:=first|exact {}|omega|simp) [zS,inB]
 (first | refine Gd.dec (fun h1=>?_) (fun h1=>?_) | refine Gd.intro (fun h1=>?_) (fun h1=>?_)) <;> simp (maxSteps:=999999) (disch:=first|exact {}|omega|simp) [zS,h1]
end Go.Vai
namespace Go.Vai
theorem c214 (x:Nu) (h:x.i64) (h0:0 ≤ x.k):PC E 214 [.agg (encN x)] [.agg (encN (low x))]:=by
 refine zP hE Proofs.Tryz.func214 Proofs.Tryz.ntmps214 rfl rfl ?_
 simp (maxSteps:=999999) (disch:=first|exact {}|omega|simp) [zS]
 refine XL.by hE (ι:={ y:Nu // y.i64 ∧ 0 ≤ y.k ∧ low y = low x }) (fun y=>⟨[(1,.ptr 1 0 0),(2,.ptr 2 0 0)],[(1,⟨3,[encN y.1]⟩),(2,⟨3,[[.int .i64 0,.int .i64 0,.int .i64 0]]⟩)]⟩)
  (fun y=>y.1.k.toNat) ⟨x,h,h0,rfl⟩ ⟨by simp,by simp,by simp⟩ (by kernel_rfl) ?_
 rintro ⟨⟨a,b,k⟩,hi,hk,hl⟩
 obtain ⟨⟨ha1,ha2⟩,⟨hb1,hb2⟩,hk1,hk2⟩:=hi
 simp only at ha1 ha2 hb1 hb2 hk1 hk2 hk
 by_cases hkp:0 < k
 ·by_cases hpa:a % 2 = 0
  ·by_cases hpb:b % 2 = 0
   ·have ta:=tdiv2 hpa
    have tb:=tdiv2 hpb
    have hs:=low_step (x:=⟨a,b,k⟩) hkp hpa hpb
    simp only at hs
    simp (maxSteps:=999999) (disch:=first|exact {}|omega|simp) [zS,encN,hkp,andI_one,hpa,hpb,ta,tb]
    by_cases za:a / 2 = 0
    ·by_cases zb:b / 2 = 0
     ·simp (maxSteps:=999999) (disch:=first|exact {}|omega|simp) [zS,za,zb]
      have hz:low ⟨0,0,0⟩ = low x:=by
       rw [← hl,← hs]
       unfold low
       simp [za,zb]
      (refine ⟨⟨⟨0,0,0⟩,by unfold Nu.i64; simp,by simp,hz⟩,by (simp; try omega), ?_⟩; constructor <;> (simp (maxSteps:=999999) (disch:=first|exact {}|omega|simp) [zS,encN]) <;> (try omega))
     ·simp (maxSteps:=999999) (disch:=first|exact {}|omega|simp) [zS,za,zb]
      (refine ⟨⟨⟨a / 2,b / 2,k - 1⟩,by unfold Nu.i64; simp only; omega,by simp only; omega,by rw [hs,hl]⟩,by (simp; try omega), ?_⟩; constructor <;> (simp (maxSteps:=999999) (disch:=first|exact {}|omega|simp) [zS,encN,za]) <;> (try omega))
    ·simp (maxSteps:=999999) (disch:=first|exact {}|omega|simp) [zS,za]
     (refine ⟨⟨⟨a / 2,b / 2,k - 1⟩,by unfold Nu.i64; simp only; omega,by simp only; omega,by rw [hs,hl]⟩,by (simp; try omega), ?_⟩; constructor <;> (simp (maxSteps:=999999) (disch:=first|exact {}|omega|simp) [zS,encN]) <;> (try omega))
   ·have he:=low_end (x:=⟨a,b,k⟩) (by simp only; omega) (by simp only; omega)
    simp (maxSteps:=999999) (disch:=first|exact {}|omega|simp) [zS,encN,hkp,andI_one,hpa,hpb]
    rw [← hl,he]
    exact ⟨rfl,rfl,rfl⟩
  ·have he:=low_end (x:=⟨a,b,k⟩) (by simp only; omega) (by simp only; omega)
   simp (maxSteps:=999999) (disch:=first|exact {}|omega|simp) [zS,encN,hkp,andI_one,hpa]
   rw [← hl,he]
   exact ⟨rfl,rfl,rfl⟩
 ·have he:=low_end (x:=⟨a,b,k⟩) (by simp only; omega) (by simp only; omega)
  simp (maxSteps:=999999) (disch:=first|exact {}|omega|simp) [zS,encN,hkp]
  rw [← hl,he]
  exact ⟨rfl,rfl,rfl⟩
theorem c210 (x:Nu) (h:x.i64) (ha:x.a ≠ -9223372036854775808) (hb:x.b ≠ -9223372036854775808):PC E 210 [.agg (encN x)] [.agg (encN (nneg x))]:=by
 obtain ⟨⟨ha1,ha2⟩,⟨hb1,hb2⟩,hk1,hk2⟩:=h
 refine zP hE Proofs.Tryz.func210 Proofs.Tryz.ntmps210 rfl rfl ?_
 simp (maxSteps:=999999) (disch:=first|exact {}|omega|simp) [zS,encN,nneg]
theorem NB.i64 {K M:Nat} {x:Nu} (h:NB K M x) (hM:M ≤ 4611686018427387904) (hK:K ≤ 60):x.i64:=by
 have:=h.abs; have:=h.k0; have:=h.k1
 unfold Nu.i64; omega
theorem c209 (x y:Nu) {K M M':Nat} (h:NB K M x) (h':NB K M' y) (hK:K ≤ 60) (hM:M + M' ≤ 4611686018427387904):PC E 209 [.agg (encN x),.agg (encN y)] [.agg (encN (nadd x y))]:=by
 refine zP hE Proofs.Tryz.func209 Proofs.Tryz.ntmps209 rfl rfl ?_
 have hp:=h.pre_add h'
 have k0:=h.k0; have k0':=h'.k0; have k1:=h.k1; have k1':=h'.k1
 obtain ⟨a1,b1⟩:=h.shift (m:=max x.k y.k) (by omega) (by omega)
 obtain ⟨a2,b2⟩:=h'.shift (m:=max x.k y.k) (by omega) (by omega)
 have q1:=Nat.le_trans (le_mul_pow _ _) a1
 have q2:=Nat.le_trans (le_mul_pow _ _) a2
 have q3:=Nat.le_trans (le_mul_pow _ _) b1
 have q4:=Nat.le_trans (le_mul_pow _ _) b2
 have hd:nadd x y = low ⟨x.a * pw (max x.k y.k - x.k) + y.a * pw (max x.k y.k - y.k),x.b * pw (max x.k y.k - x.k) + y.b * pw (max x.k y.k - y.k),max x.k y.k⟩:=rfl
 rw [hd]
 have em:(if x.k < y.k then y.k else x.k) = max x.k y.k:=by split <;> omega
 have hm0:x.k ≤ max x.k y.k:=by omega
 have hm1:y.k ≤ max x.k y.k:=by omega
 have hm2:max x.k y.k ≤ 60:=by omega
 generalize max x.k y.k = m at *
 have e1:=shlI_pw (a:=x.a) (s:=m - x.k) (by omega) (by omega) (by omega)
 have e2:=shlI_pw (a:=y.a) (s:=m - y.k) (by omega) (by omega) (by omega)
 have e3:=shlI_pw (a:=x.b) (s:=m - x.k) (by omega) (by omega) (by omega)
 have e4:=shlI_pw (a:=y.b) (s:=m - y.k) (by omega) (by omega) (by omega)
 have n1:¬ (m - x.k < 0):=by omega
 have n2:¬ (m - y.k < 0):=by omega
 have hi:=hp.i64 hM hK
 generalize x.a * pw (m - x.k) = A1 at *
 generalize y.a * pw (m - y.k) = A2 at *
 generalize x.b * pw (m - x.k) = B1 at *
 generalize y.b * pw (m - y.k) = B2 at *
 simp (maxSteps:=999999) (disch:=first|exact {}|omega|simp) [zS,encN,em,n1,n2,e1,e2,e3,e4]
 refine zC (c214 ⟨A1 + A2,B1 + B2,m⟩ hi hp.k0) ?_
 simp (maxSteps:=999999) (disch:=first|exact {}|omega|simp) [zS,encN]
theorem NB.ne {K M:Nat} {x:Nu} (h:NB K M x) (hM:M ≤ 4611686018427387904):x.a ≠ -9223372036854775808 ∧ x.b ≠ -9223372036854775808:=by
 have:=h.abs; omega
theorem c139 (x y:Nu) {K M M':Nat} (h:NB K M x) (h':NB K M' y) (hK:K ≤ 60) (hM:M + M' ≤ 4611686018427387904):PC E 139 [.agg (encN x),.agg (encN y)] [.agg (encN (nsub x y))]:=by
 refine zP hE Proofs.Tryz.func139 Proofs.Tryz.ntmps139 rfl rfl ?_
 simp (maxSteps:=999999) (disch:=first|exact {}|omega|simp) [zS]
 refine zC (c210 y (h'.i64 (by omega) hK) (h'.ne (by omega)).1 (h'.ne (by omega)).2) ?_
 simp (maxSteps:=999999) (disch:=first|exact {}|omega|simp) [zS]
 refine zC (c209 x (nneg y) h h'.neg hK hM) ?_
 simp (maxSteps:=999999) (disch:=first|exact {}|omega|simp) [zS,encN,nsub]
theorem c144 (x y:Nu) {K K' M M':Nat} (h:NB K M x) (h':NB K' M' y) (hK:K + K' ≤ 60) (hM:3 * (M * M') ≤ 4611686018427387904) (h2:M ≤ 2305843009213693952):PC E 144 [.agg (encN x),.agg (encN y)] [.agg (encN (nmul x y))]:=by
 refine zP hE Proofs.Tryz.func144 Proofs.Tryz.ntmps144 rfl rfl ?_
 have hp:=h.pre_mul h'
 have hi:=hp.i64 hM hK
 have k0:=h.k0; have k0':=h'.k0; have k1:=h.k1; have k1':=h'.k1
 obtain ⟨xa,xb⟩:=h.abs
 obtain ⟨ya,yb⟩:=h'.abs
 have m1:=Nat.mul_le_mul xa ya
 have m2:=Nat.mul_le_mul xb yb
 have m3:=Nat.mul_le_mul xa yb
 have m4:=Nat.mul_le_mul xb ya
 rw [← Int.natAbs_mul] at m1 m2 m3 m4
 have hd:nmul x y = low ⟨x.a * y.a + 2 * x.b * y.b,x.a * y.b + x.b * y.a,x.k + y.k⟩:=rfl
 rw [hd]
 have e2:2 * x.b * y.b = 2 * (x.b * y.b):=Int.mul_assoc ..
 have e3:2 * x.b * y.b = 2 * (x.b * y.b):=Int.mul_assoc ..
 simp only [e2] at hi hp ⊢
 generalize hP:M * M' = P at *
 generalize hq1:x.a * y.a = p1 at *
 generalize hq2:x.b * y.b = p2 at *
 generalize hq3:x.a * y.b = p3 at *
 generalize hq4:x.b * y.a = p4 at *
 simp (maxSteps:=999999) (disch:=first|exact {}|omega|simp) [zS,encN,hq1,hq2,hq3,hq4,e3]
 refine zC (c214 ⟨p1 + 2 * p2,p3 + p4,x.k + y.k⟩ hi hp.k0) ?_
 simp (maxSteps:=999999) (disch:=first|exact {}|omega|simp) [zS,encN]
def vN (x:Nu):Bool:=inB x.a (-131072) 131072 && (inB x.b (-131072) 131072 && (inB x.k 0 10 && (decide (x.k = 0) || (decide (x.a % 2 = 1) || decide (x.b % 2 = 1)))))
theorem c136 (x:Nu):PC E 136 [.agg (encN x)] [.i (.bool (vN x))]:=by
 refine zP hE Proofs.Tryz.func136 Proofs.Tryz.ntmps136 rfl rfl ?_
 simp (maxSteps:=999999) (disch:=first|exact {}|omega|simp) [zS,encN]
 refine zC (c109 _ _ _) ?_
 simp (maxSteps:=999999) (disch:=first|exact {}|omega|simp) [zS]
 generalize h1:inB x.a (-131072) 131072 = q1
 cases q1
 ·simp (maxSteps:=999999) (disch:=first|exact {}|omega|simp) [zS]
  simp [vN,h1]
 simp (maxSteps:=999999) (disch:=first|exact {}|omega|simp) [zS]
 refine zC (c109 _ _ _) ?_
 simp (maxSteps:=999999) (disch:=first|exact {}|omega|simp) [zS]
 generalize h2:inB x.b (-131072) 131072 = q2
 cases q2
 ·simp (maxSteps:=999999) (disch:=first|exact {}|omega|simp) [zS]
  simp [vN,h2]
 simp (maxSteps:=999999) (disch:=first|exact {}|omega|simp) [zS]
 refine zC (c109 _ _ _) ?_
 simp (maxSteps:=999999) (disch:=first|exact {}|omega|simp) [zS]
 generalize h3:inB x.k 0 10 = q3
 cases q3
 ·simp (maxSteps:=999999) (disch:=first|exact {}|omega|simp) [zS]
  simp [vN,h3]
 simp (maxSteps:=999999) (disch:=first|exact {}|omega|simp) [zS,andI_one]
 (first | refine Gd.dec (fun h4=>?_) (fun h4=>?_) | refine Gd.intro (fun h4=>?_) (fun h4=>?_)) <;> simp (maxSteps:=999999) (disch:=first|exact {}|omega|simp) [zS,h4]
 ·have e0:inB 0 0 10 = true:=rfl
  simp [vN,h1,h2,h4,e0]
 (first | refine Gd.dec (fun h5=>?_) (fun h5=>?_) | refine Gd.intro (fun h5=>?_) (fun h5=>?_)) <;> simp (maxSteps:=999999) (disch:=first|exact {}|omega|simp) [zS,h5]
 ·rw [andI_one] at h5
  simp [vN,h1,h2,h3,h5]
 rw [andI_one] at h5
 simp [vN,h1,h2,h3,h4,h5,andI_one]
end Go.Vai
namespace Go.Vai
theorem wrap_u (n:Int):IntKind.u64.wrap n = n % 18446744073709551616:=rfl
theorem wrap_u64 {n:Int} (h0:0 ≤ n) (h:n ≤ 18446744073709551615):IntKind.u64.wrap n = n:=by rw [wrap_u]; omega
theorem shrI_u32 (a:Int):shrI .u64 a 32 = a / 4294967296:=by
 unfold shrI
 show a.fdiv (2 ^ 32) = _
 rw [Int.fdiv_eq_ediv_of_nonneg _ (by decide)]; rfl
theorem shrI_u63 (a:Int):shrI .u64 a 63 = a / 9223372036854775808:=by
 unfold shrI
 show a.fdiv (2 ^ 63) = _
 rw [Int.fdiv_eq_ediv_of_nonneg _ (by decide)]; rfl
theorem shlI_u1 (a:Int):shlI .u64 a 1 = (a * 2) % 18446744073709551616:=by
 unfold shlI; rw [wrap_u]; rfl
theorem shlI_u32 (a:Int):shlI .u64 a 32 = (a * 4294967296) % 18446744073709551616:=by
 unfold shlI; rw [wrap_u]; rfl
theorem andI_u32 (a:Int):andI .u64 a 4294967295 = a % 4294967296:=by
 unfold andI
 have hb:IntKind.u64.bits = 64:=rfl
 rw [hb,wrap_u]
 have h1:(BitVec.ofInt 64 a &&& BitVec.ofInt 64 4294967295).toNat = (a % 18446744073709551616).toNat % 4294967296:=by
  rw [BitVec.toNat_and]
  have:(BitVec.ofInt 64 4294967295).toNat = 2 ^ 32 - 1:=rfl
  rw [this,Nat.and_two_pow_sub_one_eq_mod,BitVec.toNat_ofInt]
  rfl
 rw [h1]; omega
theorem orI_u {h c:Int} (h0:0 ≤ h) (h1:h < 18446744073709551616) (he:h % 2 = 0) (hc:c = 0 ∨ c = 1):orI .u64 h c = h + c:=by
 unfold orI
 have hb:IntKind.u64.bits = 64:=rfl
 rw [hb,wrap_u]
 have e1:(BitVec.ofInt 64 h ||| BitVec.ofInt 64 c).toNat = h.toNat ||| c.toNat:=by
  rw [BitVec.toNat_or,BitVec.toNat_ofInt,BitVec.toNat_ofInt]
  congr 1 <;> omega
 rw [e1]
 have e2:h.toNat = 2 * (h.toNat / 2):=by omega
 have e3:h.toNat ||| c.toNat = h.toNat + c.toNat:=by
  rcases hc with rfl | rfl
  ·simp
  ·rw [e2]
   have:=Nat.two_pow_add_eq_or_of_lt (i:=1) (b:=1) (by decide) (h.toNat / 2)
   simpa using this.symm
 rw [e3]; omega
theorem c265 (x y:Int) (hx0:0 ≤ x) (hx1:x ≤ 18446744073709551615) (hy0:0 ≤ y) (hy1:y ≤ 18446744073709551615) :
  PC E 265 [.i (.int .u64 x),.i (.int .u64 y)] [.i (.int .u64 (x * y / 18446744073709551616)),.i (.int .u64 (x * y % 18446744073709551616))]:=by
 refine zP hE Proofs.Tryz.func265 Proofs.Tryz.ntmps265 rfl rfl ?_
 obtain ⟨a,ha⟩:∃ a,a = x % 4294967296:=⟨_,rfl⟩
 obtain ⟨b,hb⟩:∃ b,b = x / 4294967296:=⟨_,rfl⟩
 obtain ⟨c,hc⟩:∃ c,c = y % 4294967296:=⟨_,rfl⟩
 obtain ⟨d,hd⟩:∃ d,d = y / 4294967296:=⟨_,rfl⟩
 have hxe:x = b * 4294967296 + a:=by omega
 have hye:y = d * 4294967296 + c:=by omega
 have bnd:∀ u v:Int,0 ≤ u → u ≤ 4294967295 → 0 ≤ v → v ≤ 4294967295 → 0 ≤ u * v ∧ u * v ≤ 18446744065119617025:=fun u v h1 h2 h3 h4 =>
  ⟨Int.mul_nonneg h1 h3,by have:=Int.mul_le_mul h2 h4 h3 (by omega:(0:Int) ≤ 4294967295); omega⟩
 have b1:=bnd a c (by omega) (by omega) (by omega) (by omega)
 have b2:=bnd b c (by omega) (by omega) (by omega) (by omega)
 have b3:=bnd a d (by omega) (by omega) (by omega) (by omega)
 have b4:=bnd b d (by omega) (by omega) (by omega) (by omega)
 have hxy:x * y = b * d * 18446744073709551616 + (b * c + a * d) * 4294967296 + a * c:=by
  rw [hxe,hye]
  simp only [Int.add_mul,Int.mul_add]
  have e1:b * 4294967296 * (d * 4294967296) = b * d * 18446744073709551616:=by
   rw [Int.mul_assoc,Int.mul_left_comm 4294967296 d,← Int.mul_assoc]; rfl
  have e2:b * 4294967296 * c = b * c * 4294967296:=by rw [Int.mul_right_comm]
  have e3:a * (d * 4294967296) = a * d * 4294967296:=by rw [Int.mul_assoc]
  rw [e1,e2,e3]; omega
 have A:andI .u64 x 4294967295 = a:=by rw [andI_u32,ha]
 have B:shrI .u64 x 32 = b:=by rw [shrI_u32,hb]
 have C:andI .u64 y 4294967295 = c:=by rw [andI_u32,hc]
 have D:shrI .u64 y 32 = d:=by rw [shrI_u32,hd]
 generalize hP:x * y = P at *
 generalize hp:a * c = p at *
 generalize hq:b * c = q at *
 generalize hr:a * d = r at *
 generalize hs:b * d = s at *
 simp (maxSteps:=999999) (disch:=first|exact {}|omega|simp) [zS,A,B,C,D,hP,hp,hq,hr,hs,shrI_u32,andI_u32,wrap_u64]
 simp only [wrap_u]
 exact ⟨by omega,trivial⟩
def sgn (n:Int):Int:=if 0 < n then 1 else if n < 0 then -1 else 0
theorem c201 (n:Int) (h0:-9223372036854775808 < n) (h1:n ≤ 9223372036854775807):PC E 201 [.i (.int .i64 n)] [.i (.int .i64 n.natAbs)]:=by
 refine zP hE Proofs.Tryz.func201 Proofs.Tryz.ntmps201 rfl rfl ?_
 simp (maxSteps:=999999) (disch:=first|exact {}|omega|simp) [zS]
 split <;> omega
theorem c211 (n:Int) (h0:-9223372036854775808 ≤ n) (h1:n ≤ 9223372036854775807):PC E 211 [.i (.int .i64 n)] [.i (.int .i64 (sgn n))]:=by
 refine zP hE Proofs.Tryz.func211 Proofs.Tryz.ntmps211 rfl rfl ?_
 simp (maxSteps:=999999) (disch:=first|exact {}|omega|simp) [zS,sgn]
 split <;> split <;> (try split) <;> omega
theorem sq_bound {a:Int} (h0:-9223372036854775808 ≤ a) (h1:a ≤ 9223372036854775807):0 ≤ (a.natAbs:Int) * a.natAbs ∧ (a.natAbs:Int) * a.natAbs ≤ 85070591730234615865843651857942052864:=by
 have h2:(a.natAbs:Int) ≤ 9223372036854775808:=by omega
 exact ⟨Int.mul_nonneg (by omega) (by omega),Int.mul_le_mul h2 h2 (by omega) (by omega)⟩
theorem natAbs_sq (a:Int):(a.natAbs:Int) * a.natAbs = a * a:=Int.natAbs_mul_self' a
theorem c212 (a b:Int) (ha0:-9223372036854775808 < a) (ha1:a ≤ 9223372036854775807) (hb0:-9223372036854775808 < b) (hb1:b ≤ 9223372036854775807) :
  PC E 212 [.i (.int .i64 a),.i (.int .i64 b)] [.i (.bool (decide (2 * (b * b) < a * a)))]:=by
 refine zP hE Proofs.Tryz.func212 Proofs.Tryz.ntmps212 rfl rfl ?_
 have wa:IntKind.u64.wrap (a.natAbs:Int) = a.natAbs:=wrap_u64 (by omega) (by omega)
 have wb:IntKind.u64.wrap (b.natAbs:Int) = b.natAbs:=wrap_u64 (by omega) (by omega)
 have sa:=sq_bound (a:=a) (by omega) ha1
 have sb:=sq_bound (a:=b) (by omega) hb1
 simp (maxSteps:=999999) (disch:=first|exact {}|omega|simp) [zS]
 refine zC (c201 a ha0 ha1) ?_
 simp (maxSteps:=999999) (disch:=first|exact {}|omega|simp) [zS,wa]
 refine zC (c201 a ha0 ha1) ?_
 simp (maxSteps:=999999) (disch:=first|exact {}|omega|simp) [zS,wa]
 refine zC (c265 a.natAbs a.natAbs (by omega) (by omega) (by omega) (by omega)) ?_
 simp (maxSteps:=999999) (disch:=first|exact {}|omega|simp) [zS]
 refine zC (c201 b hb0 hb1) ?_
 simp (maxSteps:=999999) (disch:=first|exact {}|omega|simp) [zS,wb]
 refine zC (c201 b hb0 hb1) ?_
 simp (maxSteps:=999999) (disch:=first|exact {}|omega|simp) [zS,wb]
 refine zC (c265 b.natAbs b.natAbs (by omega) (by omega) (by omega) (by omega)) ?_
 rw [← natAbs_sq a,← natAbs_sq b]
 generalize (a.natAbs:Int) * a.natAbs = p at *
 generalize (b.natAbs:Int) * b.natAbs = q at *
 have ho:orI .u64 (q / 18446744073709551616 * 2 % 18446744073709551616) (shrI .u64 (q % 18446744073709551616) 63) = q / 18446744073709551616 * 2 + q % 18446744073709551616 / 9223372036854775808:=by
  rw [shrI_u63,orI_u] <;> omega
 simp (maxSteps:=999999) (disch:=first|exact {}|omega|simp) [zS,ho,shlI_u1]
 (first | refine Gd.dec (fun h1=>?_) (fun h1=>?_) | refine Gd.intro (fun h1=>?_) (fun h1=>?_)) <;> simp (maxSteps:=999999) (disch:=first|exact {}|omega|simp) [zS,h1]
 (first | refine Gd.dec (fun h2=>?_) (fun h2=>?_) | refine Gd.intro (fun h2=>?_) (fun h2=>?_)) <;> simp (maxSteps:=999999) (disch:=first|exact {}|omega|simp) [zS,h2]
 omega
def nsign (x:Nu):Int:=if sgn x.a = sgn x.b ∨ sgn x.b = 0 then sgn x.a else if sgn x.a = 0 ∨ ¬ (2 * (x.b * x.b) < x.a * x.a) then sgn x.b else sgn x.a
theorem c140 (x:Nu) (h:x.i64) (ha:x.a ≠ -9223372036854775808) (hb:x.b ≠ -9223372036854775808):PC E 140 [.agg (encN x)] [.i (.int .i64 (nsign x))]:=by
 obtain ⟨⟨ha1,ha2⟩,⟨hb1,hb2⟩,hk1,hk2⟩:=h
 refine zP hE Proofs.Tryz.func140 Proofs.Tryz.ntmps140 rfl rfl ?_
 simp (maxSteps:=999999) (disch:=first|exact {}|omega|simp) [zS,encN]
 refine zC (c211 x.a ha1 ha2) ?_
 simp (maxSteps:=999999) (disch:=first|exact {}|omega|simp) [zS]
 refine zC (c211 x.b hb1 hb2) ?_
 simp (maxSteps:=999999) (disch:=first|exact {}|omega|simp) [zS]
 (first | refine Gd.dec (fun h1=>?_) (fun h1=>?_) | refine Gd.intro (fun h1=>?_) (fun h1=>?_)) <;> simp (maxSteps:=999999) (disch:=first|exact {}|omega|simp) [zS,h1]
 ·simp [nsign,h1]
 (first | refine Gd.dec (fun h2=>?_) (fun h2=>?_) | refine Gd.intro (fun h2=>?_) (fun h2=>?_)) <;> simp (maxSteps:=999999) (disch:=first|exact {}|omega|simp) [zS,h2]
 ·simp [nsign,h2]
 (first | refine Gd.dec (fun h3=>?_) (fun h3=>?_) | refine Gd.intro (fun h3=>?_) (fun h3=>?_)) <;> simp (maxSteps:=999999) (disch:=first|exact {}|omega|simp) [zS,h3]
 ·simp [nsign,h1,h2,h3]
  exact fun e=>h2 e.symm
 refine zC (c212 x.a x.b (by omega) ha2 (by omega) hb2) ?_
 simp (maxSteps:=999999) (disch:=first|exact {}|omega|simp) [zS]
 (first | refine Gd.dec (fun h4=>?_) (fun h4=>?_) | refine Gd.intro (fun h4=>?_) (fun h4=>?_)) <;> simp (maxSteps:=999999) (disch:=first|exact {}|omega|simp) [zS,h4]
 ·simp [nsign,h1,h2,h3,h4]
 ·simp [nsign,h1,h2,h3,h4]
end Go.Vai
namespace Go.Vai
theorem c208 (x:Nu) (h:x.i64) (h0:0 ≤ x.k):PC E 208 [.agg (encN x)] [.agg (encN (low x))]:=by
 refine zP hE Proofs.Tryz.func208 Proofs.Tryz.ntmps208 rfl rfl ?_
 by_cases hz:x.a = 0 ∧ x.b = 0
 ·have hl:low x = ⟨0,0,0⟩:=by unfold low; rw [if_pos hz]
  simp (maxSteps:=999999) (disch:=first|exact {}|omega|simp) [zS,encN,hz.1,hz.2,hl]
 by_cases hz1:x.a = 0
 ·have hz2:¬ x.b = 0:=fun h=>hz ⟨hz1,h⟩
  simp (maxSteps:=999999) (disch:=first|exact {}|omega|simp) [zS,encN,hz1,hz2]
  refine XL.by hE (ι:={ y:Nu // y.i64 ∧ 0 ≤ y.k ∧ low y = low x ∧ ¬ (y.a = 0 ∧ y.b = 0) }) (fun y=>⟨[(1,.ptr 1 0 0),(2,.ptr 2 0 0)],[(1,⟨3,[encN y.1]⟩),(2,⟨3,[[.int .i64 0,.int .i64 0,.int .i64 0]]⟩)]⟩)
   (fun y=>y.1.k.toNat) ⟨x,h,h0,rfl,hz⟩ ⟨by simp,by simp [encN,hz1],by simp⟩ (by kernel_rfl) ?_
  rintro ⟨⟨a,b,k⟩,hi,hk,hl,hnz⟩
  obtain ⟨⟨ha1,ha2⟩,⟨hb1,hb2⟩,hk1,hk2⟩:=hi
  simp only at ha1 ha2 hb1 hb2 hk1 hk2 hk hnz
  by_cases hkp:0 < k
  ·by_cases hpa:a % 2 = 0
   ·by_cases hpb:b % 2 = 0
    ·have ta:=tdiv2 hpa
     have tb:=tdiv2 hpb
     have hs:=low_step (x:=⟨a,b,k⟩) hkp hpa hpb
     simp only at hs
     simp (maxSteps:=999999) (disch:=first|exact {}|omega|simp) [zS,encN,hkp,tmod2,hpa,hpb,ta,tb]
     (refine ⟨⟨⟨a / 2,b / 2,k - 1⟩,by unfold Nu.i64; simp only; omega,by simp only; omega,by rw [hs,hl],by simp only; omega⟩,by (simp; try omega), ?_⟩; constructor <;> (simp (maxSteps:=999999) (disch:=first|exact {}|omega|simp) [zS,encN]) <;> (try omega))
    ·have he:=low_end (x:=⟨a,b,k⟩) (by simp only; omega) (by simp only; omega)
     simp (maxSteps:=999999) (disch:=first|exact {}|omega|simp) [zS,encN,hkp,tmod2,hpa,hpb]
     rw [← hl,he]
     exact ⟨rfl,rfl,rfl⟩
   ·have he:=low_end (x:=⟨a,b,k⟩) (by simp only; omega) (by simp only; omega)
    simp (maxSteps:=999999) (disch:=first|exact {}|omega|simp) [zS,encN,hkp,tmod2,hpa]
    rw [← hl,he]
    exact ⟨rfl,rfl,rfl⟩
  ·have he:=low_end (x:=⟨a,b,k⟩) (by simp only; omega) (by simp only; omega)
   simp (maxSteps:=999999) (disch:=first|exact {}|omega|simp) [zS,encN,hkp]
   rw [← hl,he]
   exact ⟨rfl,rfl,rfl⟩
 ·simp (maxSteps:=999999) (disch:=first|exact {}|omega|simp) [zS,encN,hz1]
  refine XL.by hE (ι:={ y:Nu // y.i64 ∧ 0 ≤ y.k ∧ low y = low x ∧ ¬ (y.a = 0 ∧ y.b = 0) }) (fun y=>⟨[(1,.ptr 1 0 0),(2,.ptr 2 0 0)],[(1,⟨3,[encN y.1]⟩),(2,⟨3,[[.int .i64 0,.int .i64 0,.int .i64 0]]⟩)]⟩)
   (fun y=>y.1.k.toNat) ⟨x,h,h0,rfl,hz⟩ ⟨by simp,by simp [encN],by simp⟩ (by kernel_rfl) ?_
  rintro ⟨⟨a,b,k⟩,hi,hk,hl,hnz⟩
  obtain ⟨⟨ha1,ha2⟩,⟨hb1,hb2⟩,hk1,hk2⟩:=hi
  simp only at ha1 ha2 hb1 hb2 hk1 hk2 hk hnz
  by_cases hkp:0 < k
  ·by_cases hpa:a % 2 = 0
   ·by_cases hpb:b % 2 = 0
    ·have ta:=tdiv2 hpa
     have tb:=tdiv2 hpb
     have hs:=low_step (x:=⟨a,b,k⟩) hkp hpa hpb
     simp only at hs
     simp (maxSteps:=999999) (disch:=first|exact {}|omega|simp) [zS,encN,hkp,tmod2,hpa,hpb,ta,tb]
     (refine ⟨⟨⟨a / 2,b / 2,k - 1⟩,by unfold Nu.i64; simp only; omega,by simp only; omega,by rw [hs,hl],by simp only; omega⟩,by (simp; try omega), ?_⟩; constructor <;> (simp (maxSteps:=999999) (disch:=first|exact {}|omega|simp) [zS,encN]) <;> (try omega))
    ·have he:=low_end (x:=⟨a,b,k⟩) (by simp only; omega) (by simp only; omega)
     simp (maxSteps:=999999) (disch:=first|exact {}|omega|simp) [zS,encN,hkp,tmod2,hpa,hpb]
     rw [← hl,he]
     exact ⟨rfl,rfl,rfl⟩
   ·have he:=low_end (x:=⟨a,b,k⟩) (by simp only; omega) (by simp only; omega)
    simp (maxSteps:=999999) (disch:=first|exact {}|omega|simp) [zS,encN,hkp,tmod2,hpa]
    rw [← hl,he]
    exact ⟨rfl,rfl,rfl⟩
  ·have he:=low_end (x:=⟨a,b,k⟩) (by simp only; omega) (by simp only; omega)
   simp (maxSteps:=999999) (disch:=first|exact {}|omega|simp) [zS,encN,hkp]
   rw [← hl,he]
   exact ⟨rfl,rfl,rfl⟩
theorem c123 (x:Nu):PC E 123 [.agg (encN x)] [.agg (encN x)]:=by
 refine zP hE Proofs.Tryz.func123 Proofs.Tryz.ntmps123 rfl rfl ?_
 simp (maxSteps:=999999) (disch:=first|exact {}|omega|simp) [zS,encN]
theorem c206 (x:Nu) (h:x.i64) (ha:x.a ≠ -9223372036854775808) (hb:x.b ≠ -9223372036854775808):PC E 206 [.agg (encN x)] [.agg (encN (nneg x))]:=by
 obtain ⟨⟨ha1,ha2⟩,⟨hb1,hb2⟩,hk1,hk2⟩:=h
 refine zP hE Proofs.Tryz.func206 Proofs.Tryz.ntmps206 rfl rfl ?_
 simp (maxSteps:=999999) (disch:=first|exact {}|omega|simp) [zS,encN,nneg]
theorem c122 (x:Nu):PC E 122 [.agg (encN x)] [.i (.bool (vN x))]:=by
 refine zP hE Proofs.Tryz.func122 Proofs.Tryz.ntmps122 rfl rfl ?_
 simp (maxSteps:=999999) (disch:=first|exact {}|omega|simp) [zS,encN]
 refine zC (c45 _ _ _) ?_
 simp (maxSteps:=999999) (disch:=first|exact {}|omega|simp) [zS]
 generalize h1:inB x.a (-131072) 131072 = q1
 cases q1
 ·simp (maxSteps:=999999) (disch:=first|exact {}|omega|simp) [zS]
  simp [vN,h1]
 simp (maxSteps:=999999) (disch:=first|exact {}|omega|simp) [zS]
 refine zC (c45 _ _ _) ?_
 simp (maxSteps:=999999) (disch:=first|exact {}|omega|simp) [zS]
 generalize h2:inB x.b (-131072) 131072 = q2
 cases q2
 ·simp (maxSteps:=999999) (disch:=first|exact {}|omega|simp) [zS]
  simp [vN,h2]
 simp (maxSteps:=999999) (disch:=first|exact {}|omega|simp) [zS]
 refine zC (c45 _ _ _) ?_
 simp (maxSteps:=999999) (disch:=first|exact {}|omega|simp) [zS]
 generalize h3:inB x.k 0 10 = q3
 cases q3
 ·simp (maxSteps:=999999) (disch:=first|exact {}|omega|simp) [zS]
  simp [vN,h3]
 simp (maxSteps:=999999) (disch:=first|exact {}|omega|simp) [zS]
 (first | refine Gd.dec (fun h4=>?_) (fun h4=>?_) | refine Gd.intro (fun h4=>?_) (fun h4=>?_)) <;> simp (maxSteps:=999999) (disch:=first|exact {}|omega|simp) [zS,h4]
 ·have e0:inB 0 0 10 = true:=rfl
  simp [vN,h1,h2,h4,e0]
 (first | refine Gd.dec (fun h5=>?_) (fun h5=>?_) | refine Gd.intro (fun h5=>?_) (fun h5=>?_)) <;> simp (maxSteps:=999999) (disch:=first|exact {}|omega|simp) [zS,h5]
 ·rw [tmod2] at h5
  have:¬ x.a % 2 = 1:=by omega
  simp [vN,h1,h2,h3,h4,this,tmod2]
  have e2:(x.b % 2 = 0) = ¬ (x.b % 2 = 1):=by apply propext; omega
  simp [e2]
 ·rw [tmod2] at h5
  have:x.a % 2 = 1:=by omega
  simp [vN,h1,h2,h3,this]
def nok (x:Nu):Bool:=vN (low x)
def nnum (x:Nu):Nu:=if nok x = true then low x else ⟨0,0,0⟩
theorem c131 (x:Nu) (h:x.i64) (h0:0 ≤ x.k):PC E 131 [.agg (encN x)] [.agg (encN (nnum x)),.i (.bool (nok x))]:=by
 refine zP hE Proofs.Tryz.func131 Proofs.Tryz.ntmps131 rfl rfl ?_
 simp (maxSteps:=999999) (disch:=first|exact {}|omega|simp) [zS]
 refine zC (c208 x h h0) ?_
 simp (maxSteps:=999999) (disch:=first|exact {}|omega|simp) [zS,encN]
 refine zC (c122 (low x)) ?_
 have e:vN (low x) = nok x:=rfl
 rw [e]
 simp (maxSteps:=999999) (disch:=first|exact {}|omega|simp) [zS]
 (first | refine Gd.dec (fun h1=>?_) (fun h1=>?_) | refine Gd.intro (fun h1=>?_) (fun h1=>?_)) <;> simp (maxSteps:=999999) (disch:=first|exact {}|omega|simp) [zS,h1]
 ·simp [nnum,h1]
 ·simp [nnum,h1]
theorem pw_succ (a:Int) (j:Nat):a * pw ((j:Int) + 1) = a * pw j * 2:=by
 unfold pw
 have:((j:Int) + 1).toNat = (j:Int).toNat + 1:=by omega
 rw [this,Int.pow_succ,Int.mul_assoc]
theorem pw_zero (a:Int):a * pw 0 = a:=by unfold pw; simp
theorem c205 (x y:Nu) {K M M':Nat} (h:NB K M x) (h':NB K M' y) (hK:K ≤ 60) (hM:M + M' ≤ 4611686018427387904):PC E 205 [.agg (encN x),.agg (encN y)] [.agg (encN (nadd x y))]:=by
 refine zP hE Proofs.Tryz.func205 Proofs.Tryz.ntmps205 rfl rfl ?_
 have hp:=h.pre_add h'
 have k0:=h.k0; have k0':=h'.k0; have k1:=h.k1; have k1':=h'.k1
 have sx:∀ j:Nat,x.k + j ≤ max x.k y.k → (x.a * pw j).natAbs ≤ M ∧ (x.b * pw j).natAbs ≤ M:=fun j hj=>by
  obtain ⟨q1,q2⟩:=h.shift (m:=x.k + j) (by omega) (by omega)
  have e:x.k + j - x.k = (j:Int):=by omega
  rw [e] at q1 q2
  exact ⟨Nat.le_trans (le_mul_pow _ _) q1,Nat.le_trans (le_mul_pow _ _) q2⟩
 have sy:∀ j:Nat,y.k + j ≤ max x.k y.k → (y.a * pw j).natAbs ≤ M' ∧ (y.b * pw j).natAbs ≤ M':=fun j hj=>by
  obtain ⟨q1,q2⟩:=h'.shift (m:=y.k + j) (by omega) (by omega)
  have e:y.k + j - y.k = (j:Int):=by omega
  rw [e] at q1 q2
  exact ⟨Nat.le_trans (le_mul_pow _ _) q1,Nat.le_trans (le_mul_pow _ _) q2⟩
 simp (maxSteps:=999999) (disch:=first|exact {}|omega|simp) [zS]
 refine XL.by hE (ι:={ j:Nat // x.k + j ≤ max x.k y.k }) (fun j=>⟨[(2,.ptr 2 0 0),(3,.ptr 3 0 0),(4,.ptr 4 0 0)],[(2,⟨3,[[.int .i64 (x.a * pw j.1),.int .i64 (x.b * pw j.1),.int .i64 (x.k + j.1)]]⟩),(3,⟨3,[encN y]⟩),(4,⟨3,[[.int .i64 0,.int .i64 0,.int .i64 0]]⟩)]⟩)
  (fun j=>(max x.k y.k - x.k - j.1).toNat) ⟨0,by omega⟩ ⟨by simp,by simp [encN,pw_zero],by simp⟩ (by kernel_rfl) ?_
 rintro ⟨j,hj⟩
 obtain ⟨s1,s2⟩:=sx j hj
 by_cases hlt:x.k + j < y.k
 ·obtain ⟨t1,t2⟩:=sx (j + 1) (by omega)
  rw [show ((j + 1:Nat):Int) = (j:Int) + 1 by omega,pw_succ] at t1 t2
  have r1:=pw_succ x.a j
  have r2:=pw_succ x.b j
  generalize hA:x.a * pw j = A at *
  generalize hB:x.b * pw j = B at *
  simp (maxSteps:=999999) (disch:=first|exact {}|omega|simp) [zS,hlt,encN]
  (refine ⟨⟨j + 1,by omega⟩,by (simp; try omega), ?_⟩; constructor <;> (simp (maxSteps:=999999) (disch:=first|exact {}|omega|simp) [zS,r1,r2,encN]) <;> (try omega))
 ·have hjm:x.k + (j:Int) = max x.k y.k:=by omega
  have hje:(j:Int) = max x.k y.k - x.k:=by omega
  have hd:nadd x y = low ⟨x.a * pw (max x.k y.k - x.k) + y.a * pw (max x.k y.k - y.k),x.b * pw (max x.k y.k - x.k) + y.b * pw (max x.k y.k - y.k),max x.k y.k⟩:=rfl
  rw [← hje] at hd hp
  rw [hd]
  generalize hA:x.a * pw j = A at *
  generalize hB:x.b * pw j = B at *
  simp (maxSteps:=999999) (disch:=first|exact {}|omega|simp) [zS,hlt,encN]
  refine XL.by hE (ι:={ i:Nat // y.k + i ≤ max x.k y.k }) (fun i=>⟨[(2,.ptr 2 0 0),(3,.ptr 3 0 0),(4,.ptr 4 0 0)],[(2,⟨3,[[.int .i64 A,.int .i64 B,.int .i64 (x.k + j)]]⟩),(3,⟨3,[[.int .i64 (y.a * pw i.1),.int .i64 (y.b * pw i.1),.int .i64 (y.k + i.1)]]⟩),(4,⟨3,[[.int .i64 0,.int .i64 0,.int .i64 0]]⟩)]⟩)
   (fun i=>(max x.k y.k - y.k - i.1).toNat) ⟨0,by omega⟩ ⟨by simp,by simp [encN,pw_zero],by simp⟩ (by kernel_rfl) ?_
  rintro ⟨i,hi⟩
  obtain ⟨u1,u2⟩:=sy i hi
  by_cases hlt2:y.k + i < x.k + j
  ·obtain ⟨t1,t2⟩:=sy (i + 1) (by omega)
   rw [show ((i + 1:Nat):Int) = (i:Int) + 1 by omega,pw_succ] at t1 t2
   have r1:=pw_succ y.a i
   have r2:=pw_succ y.b i
   generalize hC:y.a * pw i = C at *
   generalize hD:y.b * pw i = D at *
   simp (maxSteps:=999999) (disch:=first|exact {}|omega|simp) [zS,hlt2,encN]
   (refine ⟨⟨i + 1,by omega⟩,by (simp; try omega), ?_⟩; constructor <;> (simp (maxSteps:=999999) (disch:=first|exact {}|omega|simp) [zS,r1,r2,encN]) <;> (try omega))
  ·have hie:(i:Int) = max x.k y.k - y.k:=by omega
   rw [← hie] at hp ⊢
   generalize hC:y.a * pw i = C at *
   generalize hD:y.b * pw i = D at *
   have hi64:=hp.i64 hM hK
   simp (maxSteps:=999999) (disch:=first|exact {}|omega|simp) [zS,hlt2,encN]
   simp only [hjm]
   refine zC (c208 ⟨A + C,B + D,max x.k y.k⟩ hi64 hp.k0) ?_
   simp (maxSteps:=999999) (disch:=first|exact {}|omega|simp) [zS,encN]
theorem c128 (x y:Nu) {K M M':Nat} (h:NB K M x) (h':NB K M' y) (hK:K ≤ 60) (hM:M + M' ≤ 4611686018427387904):PC E 128 [.agg (encN x),.agg (encN y)] [.agg (encN (nsub x y))]:=by
 refine zP hE Proofs.Tryz.func128 Proofs.Tryz.ntmps128 rfl rfl ?_
 simp (maxSteps:=999999) (disch:=first|exact {}|omega|simp) [zS]
 refine zC (c206 y (h'.i64 (by omega) hK) (h'.ne (by omega)).1 (h'.ne (by omega)).2) ?_
 simp (maxSteps:=999999) (disch:=first|exact {}|omega|simp) [zS]
 refine zC (c205 x (nneg y) h h'.neg hK hM) ?_
 simp (maxSteps:=999999) (disch:=first|exact {}|omega|simp) [zS,encN,nsub]
theorem c133 (x y:Nu) {K K' M M':Nat} (h:NB K M x) (h':NB K' M' y) (hK:K + K' ≤ 60) (hM:3 * (M * M') ≤ 4611686018427387904) (h2:M ≤ 2305843009213693952):PC E 133 [.agg (encN x),.agg (encN y)] [.agg (encN (nmul x y))]:=by
 refine zP hE Proofs.Tryz.func133 Proofs.Tryz.ntmps133 rfl rfl ?_
 have hp:=h.pre_mul h'
 have hi:=hp.i64 hM hK
 have k0:=h.k0; have k0':=h'.k0; have k1:=h.k1; have k1':=h'.k1
 obtain ⟨xa,xb⟩:=h.abs
 obtain ⟨ya,yb⟩:=h'.abs
 have m1:=Nat.mul_le_mul xa ya
 have m2:=Nat.mul_le_mul xb yb
 have m3:=Nat.mul_le_mul xa yb
 have m4:=Nat.mul_le_mul xb ya
 rw [← Int.natAbs_mul] at m1 m2 m3 m4
 have hd:nmul x y = low ⟨x.a * y.a + 2 * x.b * y.b,x.a * y.b + x.b * y.a,x.k + y.k⟩:=rfl
 rw [hd]
 have e2:2 * x.b * y.b = 2 * (x.b * y.b):=Int.mul_assoc ..
 have e3:2 * x.b * y.b = 2 * (x.b * y.b):=Int.mul_assoc ..
 simp only [e2] at hi hp ⊢
 generalize hP:M * M' = P at *
 generalize hq1:x.a * y.a = p1 at *
 generalize hq2:x.b * y.b = p2 at *
 generalize hq3:x.a * y.b = p3 at *
 generalize hq4:x.b * y.a = p4 at *
 simp (maxSteps:=999999) (disch:=first|exact {}|omega|simp) [zS,encN,hq1,hq2,hq3,hq4,e3]
 refine zC (c208 ⟨p1 + 2 * p2,p3 + p4,x.k + y.k⟩ hi hp.k0) ?_
 simp (maxSteps:=999999) (disch:=first|exact {}|omega|simp) [zS,encN]
end Go.Vai
namespace Go.Vai
theorem c264 (x:Int) (h0:-9223372036854775808 < x) (h1:x ≤ 9223372036854775807) :
  PC E 264 [.i (.int .i64 x)] [.i (.int .u64 (x * x / 18446744073709551616)),.i (.int .u64 (x * x % 18446744073709551616))]:=by
 refine zP hE Proofs.Tryz.func264 Proofs.Tryz.ntmps264 rfl rfl ?_
 rw [← natAbs_sq x]
 obtain ⟨u,hu⟩:∃ u:Int,u = x.natAbs:=⟨_,rfl⟩
 have hu0:0 ≤ u:=by omega
 have hu1:u ≤ 9223372036854775807:=by omega
 rw [← hu]
 obtain ⟨a,ha⟩:∃ a,a = u % 4294967296:=⟨_,rfl⟩
 obtain ⟨b,hb⟩:∃ b,b = u / 4294967296:=⟨_,rfl⟩
 have hue:u = b * 4294967296 + a:=by omega
 have b1:0 ≤ a * a ∧ a * a ≤ 18446744065119617025:=⟨Int.mul_nonneg (by omega) (by omega),by have:=Int.mul_le_mul (show a ≤ 4294967295 by omega) (show a ≤ 4294967295 by omega) (by omega) (by omega:(0:Int) ≤ 4294967295); omega⟩
 have b2:0 ≤ 2 * a * b ∧ 2 * a * b ≤ 18446744060824649730:=⟨Int.mul_nonneg (by omega) (by omega),by have:=Int.mul_le_mul (show 2 * a ≤ 8589934590 by omega) (show b ≤ 2147483647 by omega) (by omega) (by omega:(0:Int) ≤ 8589934590); omega⟩
 have b3:0 ≤ b * b ∧ b * b ≤ 4611686014132420609:=⟨Int.mul_nonneg (by omega) (by omega),by have:=Int.mul_le_mul (show b ≤ 2147483647 by omega) (show b ≤ 2147483647 by omega) (by omega) (by omega:(0:Int) ≤ 2147483647); omega⟩
 have huu:u * u = b * b * 18446744073709551616 + 2 * a * b * 4294967296 + a * a:=by
  rw [hue]
  simp only [Int.add_mul,Int.mul_add]
  have e1:b * 4294967296 * (b * 4294967296) = b * b * 18446744073709551616:=by
   rw [Int.mul_assoc,Int.mul_left_comm 4294967296 b,← Int.mul_assoc]; rfl
  have e2:b * 4294967296 * a = a * b * 4294967296:=by rw [Int.mul_right_comm,Int.mul_comm b a]
  have e3:a * (b * 4294967296) = a * b * 4294967296:=by rw [Int.mul_assoc]
  have e4:2 * a * b = 2 * (a * b):=Int.mul_assoc ..
  rw [e1,e2,e3,e4]; omega
 have A:andI .u64 u 4294967295 = a:=by rw [andI_u32,ha]
 have B:shrI .u64 u 32 = b:=by rw [shrI_u32,hb]
 generalize hP:u * u = P at *
 generalize hp:a * a = p at *
 generalize hq:2 * a * b = q at *
 generalize hs:b * b = s at *
 have ax:0 ≤ a ∧ a ≤ 4294967295:=by omega
 have bx:0 ≤ b ∧ b ≤ 2147483647:=by omega
 have t1:(q * 4294967296 % 18446744073709551616) = q % 4294967296 * 4294967296:=by omega
 by_cases hx:x < 0
 ·have hw:IntKind.u64.wrap (-x) = u:=by rw [wrap_u64] <;> omega
  simp (maxSteps:=999999) (disch:=first|exact {}|omega|simp) [zS,hx,hw,A,B,hp,hq,hs,shrI_u32,shlI_u32,wrap_u64,t1]
  simp only [wrap_u]
  (first | refine Gd.dec (fun h2=>?_) (fun h2=>?_) | refine Gd.intro (fun h2=>?_) (fun h2=>?_)) <;> simp (maxSteps:=999999) (disch:=first|exact {}|omega|simp) [zS,h2]
  ·simp only [hs,wrap_u]; exact ⟨by omega,by omega⟩
  ·simp only [hs,wrap_u]; exact ⟨by omega,by omega⟩
 ·have hw:IntKind.u64.wrap x = u:=by rw [wrap_u64] <;> omega
  simp (maxSteps:=999999) (disch:=first|exact {}|omega|simp) [zS,hx,hw,A,B,hp,hq,hs,shrI_u32,shlI_u32,wrap_u64,t1]
  simp only [wrap_u]
  (first | refine Gd.dec (fun h2=>?_) (fun h2=>?_) | refine Gd.intro (fun h2=>?_) (fun h2=>?_)) <;> simp (maxSteps:=999999) (disch:=first|exact {}|omega|simp) [zS,h2]
  ·simp only [hs,wrap_u]; exact ⟨by omega,by omega⟩
  ·simp only [hs,wrap_u]; exact ⟨by omega,by omega⟩
theorem c204 (a b:Int) (ha0:-9223372036854775808 < a) (ha1:a ≤ 9223372036854775807) (hb0:-9223372036854775808 < b) (hb1:b ≤ 9223372036854775807) :
  PC E 204 [.i (.int .i64 a),.i (.int .i64 b)] [.i (.bool (decide (a * a < 2 * (b * b))))]:=by
 refine zP hE Proofs.Tryz.func204 Proofs.Tryz.ntmps204 rfl rfl ?_
 have sa:=sq_bound (a:=a) (by omega) ha1
 have sb:=sq_bound (a:=b) (by omega) hb1
 rw [natAbs_sq] at sa sb
 simp (maxSteps:=999999) (disch:=first|exact {}|omega|simp) [zS]
 refine zC (c264 a ha0 ha1) ?_
 simp (maxSteps:=999999) (disch:=first|exact {}|omega|simp) [zS]
 refine zC (c264 b hb0 hb1) ?_
 generalize a * a = p at *
 generalize b * b = q at *
 simp (maxSteps:=999999) (disch:=first|exact {}|omega|simp) [zS,shrI_u63,wrap_u64]
 (first | refine Gd.dec (fun h1=>?_) (fun h1=>?_) | refine Gd.intro (fun h1=>?_) (fun h1=>?_)) <;> simp (maxSteps:=999999) (disch:=first|exact {}|omega|simp) [zS,h1]
 (first | refine Gd.dec (fun h2=>?_) (fun h2=>?_) | refine Gd.intro (fun h2=>?_) (fun h2=>?_)) <;> simp (maxSteps:=999999) (disch:=first|exact {}|omega|simp) [zS,h2]
 all_goals simp only [wrap_u]
 all_goals omega
theorem irrN:∀ (m n:Nat),n * n = 2 * (m * m) → m = 0:=by
 intro m
 induction m using Nat.strongRecOn with
 | _ m ih =>
  intro n h
  by_cases hm:m = 0
  ·exact hm
  ·exfalso
   have hn:n % 2 = 0:=by
    have h2:(n * n) % 2 = 0:=by omega
    rw [Nat.mul_mod] at h2
    rcases Nat.mod_two_eq_zero_or_one n with h3 | h3
    ·exact h3
    ·rw [h3] at h2; omega
   obtain ⟨t,rfl⟩:∃ t,n = 2 * t:=⟨n / 2,by omega⟩
   have h4:2 * t * (2 * t) = 4 * (t * t):=by rw [Nat.mul_mul_mul_comm]
   rw [h4] at h
   have h5:m * m = 2 * (t * t):=by omega
   have hlt:t < m:=by
    rcases Nat.lt_or_ge t m with h6 | h6
    ·exact h6
    ·have:=Nat.mul_le_mul h6 h6
     have:0 < m * m:=Nat.mul_pos (by omega) (by omega)
     omega
   have ht:=ih t hlt m h5
   rw [ht] at h5
   have:0 < m * m:=Nat.mul_pos (by omega) (by omega)
   omega
theorem irr {a b:Int} (h:a * a = 2 * (b * b)):b = 0:=by
 have h1:a.natAbs * a.natAbs = 2 * (b.natAbs * b.natAbs):=by
  have e1:=natAbs_sq a
  have e2:=natAbs_sq b
  have:((a.natAbs * a.natAbs:Nat):Int) = ((2 * (b.natAbs * b.natAbs):Nat):Int):=by
   rw [Int.natCast_mul,Int.natCast_mul,Int.natCast_mul,e1,e2]; exact h
  exact Int.ofNat_inj.1 this
 have:=irrN _ _ h1
 omega
theorem c127 (x:Nu) (h:x.i64) (ha:x.a ≠ -9223372036854775808) (hb:x.b ≠ -9223372036854775808):PC E 127 [.agg (encN x)] [.i (.int .i64 (nsign x))]:=by
 obtain ⟨⟨ha1,ha2⟩,⟨hb1,hb2⟩,hk1,hk2⟩:=h
 have hir:=irr (a:=x.a) (b:=x.b)
 refine zP hE Proofs.Tryz.func127 Proofs.Tryz.ntmps127 rfl rfl ?_
 unfold nsign sgn
 by_cases a0:x.a = 0
 ·by_cases b0:x.b = 0
  ·simp (maxSteps:=999999) (disch:=first|exact {}|omega|simp) [zS,encN,a0,b0]
  ·by_cases bp:0 < x.b
   ·have:0 ≤ x.b:=by omega
    simp (maxSteps:=999999) (disch:=first|exact {}|omega|simp) [zS,encN,a0,b0,bp,this]
   ·have t1:¬ 0 ≤ x.b:=by omega
    have t2:x.b ≤ 0:=by omega
    have t3:x.b < 0:=by omega
    simp (maxSteps:=999999) (disch:=first|exact {}|omega|simp) [zS,encN,a0,b0,bp,t1,t2,t3]
 ·by_cases ap:0 < x.a
  ·by_cases bp:0 ≤ x.b
   ·have t1:0 ≤ x.a:=by omega
    simp (maxSteps:=999999) (disch:=first|exact {}|omega|simp) [zS,encN,a0,ap,t1,bp]
   ·have t1:0 ≤ x.a:=by omega
    have t2:¬ x.a ≤ 0:=by omega
    have t3:¬ 0 < x.b:=by omega
    have t4:x.b < 0:=by omega
    simp (maxSteps:=999999) (disch:=first|exact {}|omega|simp) [zS,encN,a0,ap,t1,bp,t2]
    refine zC (c204 x.a x.b (by omega) ha2 (by omega) hb2) ?_
    simp (maxSteps:=999999) (disch:=first|exact {}|omega|simp) [zS,t3]
    (first | refine Gd.dec (fun h1=>?_) (fun h1=>?_) | refine Gd.intro (fun h1=>?_) (fun h1=>?_)) <;> simp (maxSteps:=999999) (disch:=first|exact {}|omega|simp) [zS,h1]
  ·have an:x.a < 0:=by omega
   have t1:¬ 0 ≤ x.a:=by omega
   have t2:x.a ≤ 0:=by omega
   by_cases bp:x.b ≤ 0
   ·simp (maxSteps:=999999) (disch:=first|exact {}|omega|simp) [zS,encN,a0,ap,an,t1,t2,bp]
   ·have t3:0 < x.b:=by omega
    simp (maxSteps:=999999) (disch:=first|exact {}|omega|simp) [zS,encN,a0,ap,t1,bp,t2]
    refine zC (c204 x.a x.b (by omega) ha2 (by omega) hb2) ?_
    simp (maxSteps:=999999) (disch:=first|exact {}|omega|simp) [zS,t3]
    (first | refine Gd.dec (fun h1=>?_) (fun h1=>?_) | refine Gd.intro (fun h1=>?_) (fun h1=>?_)) <;> simp (maxSteps:=999999) (disch:=first|exact {}|omega|simp) [zS,h1]
end Go.Vai
namespace Go.Vai
structure Pt where
 x:Nu
 y:Nu
 deriving DecidableEq,Inhabited
def encP (p:Pt):List IV:=[.int .i64 p.x.a,.int .i64 p.x.b,.int .i64 p.x.k,.int .i64 p.y.a,.int .i64 p.y.b,.int .i64 p.y.k]
@[simp] theorem encP_len (x:Pt):(encP x).length = 6:=rfl
@[simp] theorem encP_take (x:Pt):(encP x).take 6 = encP x:=rfl
structure Li where
 dir:Int
 off:Nu
 deriving DecidableEq,Inhabited
def encLi (l:Li):List IV:=[.int .i64 l.dir,.int .i64 l.off.a,.int .i64 l.off.b,.int .i64 l.off.k]
@[simp] theorem encLi_len (x:Li):(encLi x).length = 4:=rfl
@[simp] theorem encLi_take (x:Li):(encLi x).take 4 = encLi x:=rfl
def vecL:List Pt:=[⟨⟨1,0,0⟩,⟨0,0,0⟩⟩,⟨⟨1,0,0⟩,⟨-1,1,0⟩⟩,⟨⟨1,0,0⟩,⟨1,0,0⟩⟩,⟨⟨-1,1,0⟩,⟨1,0,0⟩⟩,⟨⟨0,0,0⟩,⟨1,0,0⟩⟩,⟨⟨1,-1,0⟩,⟨1,0,0⟩⟩,⟨⟨-1,0,0⟩,⟨1,0,0⟩⟩,⟨⟨-1,0,0⟩,⟨-1,1,0⟩⟩,⟨⟨-1,0,0⟩,⟨0,0,0⟩⟩,⟨⟨-1,0,0⟩,⟨1,-1,0⟩⟩,⟨⟨-1,0,0⟩,⟨-1,0,0⟩⟩,⟨⟨1,-1,0⟩,⟨-1,0,0⟩⟩,⟨⟨0,0,0⟩,⟨-1,0,0⟩⟩,⟨⟨-1,1,0⟩,⟨-1,0,0⟩⟩,⟨⟨1,0,0⟩,⟨-1,0,0⟩⟩,⟨⟨1,0,0⟩,⟨1,-1,0⟩⟩]
def vec (d:Int):Pt:=vecL.getD d.toNat default
theorem dir8 {d:Int} (h0:0 ≤ d) (h1:d ≤ 7):d = 0 ∨ d = 1 ∨ d = 2 ∨ d = 3 ∨ d = 4 ∨ d = 5 ∨ d = 6 ∨ d = 7:=by omega
theorem dir16 {d:Int} (h0:0 ≤ d) (h1:d ≤ 15):d = 0 ∨ d = 1 ∨ d = 2 ∨ d = 3 ∨ d = 4 ∨ d = 5 ∨ d = 6 ∨ d = 7 ∨ d = 8 ∨ d = 9 ∨ d = 10 ∨ d = 11 ∨ d = 12 ∨ d = 13 ∨ d = 14 ∨ d = 15:=by omega
theorem vec_bound (d:Int) (h0:0 ≤ d) (h1:d ≤ 15):NB 0 1 (vec d).x ∧ NB 0 1 (vec d).y:=by
 rcases dir16 h0 h1 with rfl | rfl | rfl | rfl | rfl | rfl | rfl | rfl | rfl | rfl | rfl | rfl | rfl | rfl | rfl | rfl <;>
  exact ⟨⟨by decide,by decide,by decide,by decide⟩,⟨by decide,by decide,by decide,by decide⟩⟩
theorem NB.i64z {x:Nu} (h:NB 0 1 x):x.i64:=h.i64 (by decide) (by decide)
theorem c196 (d:Int) (h0:0 ≤ d) (h1:d ≤ 15):PC E 196 [.i (.int .i64 d)] [.agg (encP (vec d))]:=by
 refine zP hE Proofs.Tryz.func196 Proofs.Tryz.ntmps196 rfl rfl ?_
 rcases dir16 h0 h1 with rfl | rfl | rfl | rfl | rfl | rfl | rfl | rfl | rfl | rfl | rfl | rfl | rfl | rfl | rfl | rfl
 ·simp (maxSteps:=999999) (disch:=first|exact {}|omega|simp) [zS,gv0,encP,vec,vecL]
 ·simp (maxSteps:=999999) (disch:=first|exact {}|omega|simp) [zS,gv0,encP,vec,vecL]
 ·simp (maxSteps:=999999) (disch:=first|exact {}|omega|simp) [zS,gv0,encP,vec,vecL]
 ·simp (maxSteps:=999999) (disch:=first|exact {}|omega|simp) [zS,gv0,encP,vec,vecL]
 ·simp (maxSteps:=999999) (disch:=first|exact {}|omega|simp) [zS,gv0,encP,vec,vecL]
 ·simp (maxSteps:=999999) (disch:=first|exact {}|omega|simp) [zS,gv0,encP,vec,vecL]
 ·simp (maxSteps:=999999) (disch:=first|exact {}|omega|simp) [zS,gv0,encP,vec,vecL]
 ·simp (maxSteps:=999999) (disch:=first|exact {}|omega|simp) [zS,gv0,encP,vec,vecL]
 ·simp (maxSteps:=999999) (disch:=first|exact {}|omega|simp) [zS,gv0]
  refine zC (c210 (vec 0).x (vec_bound 0 (by decide) (by decide)).1.i64z (by decide) (by decide)) ?_
  simp (maxSteps:=999999) (disch:=first|exact {}|omega|simp) [zS]
  refine zC (c210 (vec 0).y (vec_bound 0 (by decide) (by decide)).2.i64z (by decide) (by decide)) ?_
  simp (maxSteps:=999999) (disch:=first|exact {}|omega|simp) [zS,encP,encN,vec,vecL,nneg]
 ·simp (maxSteps:=999999) (disch:=first|exact {}|omega|simp) [zS,gv0]
  refine zC (c210 (vec 1).x (vec_bound 1 (by decide) (by decide)).1.i64z (by decide) (by decide)) ?_
  simp (maxSteps:=999999) (disch:=first|exact {}|omega|simp) [zS]
  refine zC (c210 (vec 1).y (vec_bound 1 (by decide) (by decide)).2.i64z (by decide) (by decide)) ?_
  simp (maxSteps:=999999) (disch:=first|exact {}|omega|simp) [zS,encP,encN,vec,vecL,nneg]
 ·simp (maxSteps:=999999) (disch:=first|exact {}|omega|simp) [zS,gv0]
  refine zC (c210 (vec 2).x (vec_bound 2 (by decide) (by decide)).1.i64z (by decide) (by decide)) ?_
  simp (maxSteps:=999999) (disch:=first|exact {}|omega|simp) [zS]
  refine zC (c210 (vec 2).y (vec_bound 2 (by decide) (by decide)).2.i64z (by decide) (by decide)) ?_
  simp (maxSteps:=999999) (disch:=first|exact {}|omega|simp) [zS,encP,encN,vec,vecL,nneg]
 ·simp (maxSteps:=999999) (disch:=first|exact {}|omega|simp) [zS,gv0]
  refine zC (c210 (vec 3).x (vec_bound 3 (by decide) (by decide)).1.i64z (by decide) (by decide)) ?_
  simp (maxSteps:=999999) (disch:=first|exact {}|omega|simp) [zS]
  refine zC (c210 (vec 3).y (vec_bound 3 (by decide) (by decide)).2.i64z (by decide) (by decide)) ?_
  simp (maxSteps:=999999) (disch:=first|exact {}|omega|simp) [zS,encP,encN,vec,vecL,nneg]
 ·simp (maxSteps:=999999) (disch:=first|exact {}|omega|simp) [zS,gv0]
  refine zC (c210 (vec 4).x (vec_bound 4 (by decide) (by decide)).1.i64z (by decide) (by decide)) ?_
  simp (maxSteps:=999999) (disch:=first|exact {}|omega|simp) [zS]
  refine zC (c210 (vec 4).y (vec_bound 4 (by decide) (by decide)).2.i64z (by decide) (by decide)) ?_
  simp (maxSteps:=999999) (disch:=first|exact {}|omega|simp) [zS,encP,encN,vec,vecL,nneg]
 ·simp (maxSteps:=999999) (disch:=first|exact {}|omega|simp) [zS,gv0]
  refine zC (c210 (vec 5).x (vec_bound 5 (by decide) (by decide)).1.i64z (by decide) (by decide)) ?_
  simp (maxSteps:=999999) (disch:=first|exact {}|omega|simp) [zS]
  refine zC (c210 (vec 5).y (vec_bound 5 (by decide) (by decide)).2.i64z (by decide) (by decide)) ?_
  simp (maxSteps:=999999) (disch:=first|exact {}|omega|simp) [zS,encP,encN,vec,vecL,nneg]
 ·simp (maxSteps:=999999) (disch:=first|exact {}|omega|simp) [zS,gv0]
  refine zC (c210 (vec 6).x (vec_bound 6 (by decide) (by decide)).1.i64z (by decide) (by decide)) ?_
  simp (maxSteps:=999999) (disch:=first|exact {}|omega|simp) [zS]
  refine zC (c210 (vec 6).y (vec_bound 6 (by decide) (by decide)).2.i64z (by decide) (by decide)) ?_
  simp (maxSteps:=999999) (disch:=first|exact {}|omega|simp) [zS,encP,encN,vec,vecL,nneg]
 ·simp (maxSteps:=999999) (disch:=first|exact {}|omega|simp) [zS,gv0]
  refine zC (c210 (vec 7).x (vec_bound 7 (by decide) (by decide)).1.i64z (by decide) (by decide)) ?_
  simp (maxSteps:=999999) (disch:=first|exact {}|omega|simp) [zS]
  refine zC (c210 (vec 7).y (vec_bound 7 (by decide) (by decide)).2.i64z (by decide) (by decide)) ?_
  simp (maxSteps:=999999) (disch:=first|exact {}|omega|simp) [zS,encP,encN,vec,vecL,nneg]
theorem c157 (d:Int) (h0:-4611686018427387904 ≤ d) (h1:d ≤ 4611686018427387904):PC E 157 [.i (.int .i64 d)] [.i (.int .i64 (d % 16))]:=by
 refine zP hE Proofs.Tryz.func157 Proofs.Tryz.ntmps157 rfl rfl ?_
 have e1:-16 < d.tmod 16 ∧ d.tmod 16 < 16:=by
  rw [Int.tmod_eq_emod]; split <;> simp <;> omega
 have e2:(d.tmod 16 + 16).tmod 16 = d % 16:=by
  rw [Int.tmod_eq_emod_of_nonneg (by omega),Int.tmod_eq_emod]
  split <;> simp <;> omega
 simp (maxSteps:=999999) (disch:=first|exact {}|omega|simp) [zS,e2]
theorem c132 (d:Int) (h0:-4611686018427387904 ≤ d) (h1:d ≤ 4611686018427387904):PC E 132 [.i (.int .i64 d)] [.agg (encP (vec (d % 16)))]:=by
 refine zP hE Proofs.Tryz.func132 Proofs.Tryz.ntmps132 rfl rfl ?_
 simp (maxSteps:=999999) (disch:=first|exact {}|omega|simp) [zS]
 refine zC (c157 d h0 h1) ?_
 have hd0:0 ≤ d % 16:=by omega
 have hd1:d % 16 ≤ 15:=by omega
 generalize d % 16 = e at *
 rcases dir16 hd0 hd1 with rfl | rfl | rfl | rfl | rfl | rfl | rfl | rfl | rfl | rfl | rfl | rfl | rfl | rfl | rfl | rfl
 all_goals simp (maxSteps:=999999) (disch:=first|exact {}|omega|simp) [zS,encP,vec,vecL]
end Go.Vai
namespace Go.Vai
def vP (p:Pt):Bool:=vN p.x && vN p.y
def vL (l:Li):Bool:=inB l.dir 0 7 && vN l.off
theorem vN_bound {x:Nu} (h:vN x = true):NB 10 134217728 x:=by
 simp only [vN,Bool.and_eq_true,inB_iff] at h
 obtain ⟨h1,h2,h3,-⟩:=h
 have e:2 ^ (10 - x.k.toNat) ≤ 1024:=by
  have:=Nat.pow_le_pow_right (n:=2) (by decide) (show 10 - x.k.toNat ≤ 10 by omega)
  simpa using this
 have m1:=Nat.mul_le_mul (show x.a.natAbs ≤ 131072 by omega) e
 have m2:=Nat.mul_le_mul (show x.b.natAbs ≤ 131072 by omega) e
 exact ⟨by omega,by omega,by omega,by omega⟩
def ndot (p q:Pt):Nu:=nadd (nmul p.x q.x) (nmul p.y q.y)
def PB (K M:Nat) (p:Pt):Prop:=NB K M p.x ∧ NB K M p.y
theorem vP_bound {p:Pt} (h:vP p = true):PB 10 134217728 p:=by
 simp only [vP,Bool.and_eq_true] at h
 exact ⟨vN_bound h.1,vN_bound h.2⟩
theorem PB.dot {K K' M M':Nat} {p q:Pt} (h:PB K M p) (h':PB K' M' q):NB (K + K') (6 * (M * M')) (ndot p q) :=
 ((h.1.mul h'.1).add (h.2.mul h'.2)).mono (by omega)
theorem vec_PB {d:Int} (h0:0 ≤ d) (h1:d ≤ 15):PB 0 1 (vec d):=vec_bound d h0 h1
theorem c148 (p:Pt):PC E 148 [.agg (encP p)] [.i (.bool (vP p))]:=by
 refine zP hE Proofs.Tryz.func148 Proofs.Tryz.ntmps148 rfl rfl ?_
 simp (maxSteps:=999999) (disch:=first|exact {}|omega|simp) [zS,encP]
 refine zC (c136 p.x) ?_
 simp (maxSteps:=999999) (disch:=first|exact {}|omega|simp) [zS]
 (first | refine Gd.dec (fun h1=>?_) (fun h1=>?_) | refine Gd.intro (fun h1=>?_) (fun h1=>?_)) <;> simp (maxSteps:=999999) (disch:=first|exact {}|omega|simp) [zS,h1]
 rotate_left
 ·simp [vP,h1]
 refine zC (c136 p.y) ?_
 simp (maxSteps:=999999) (disch:=first|exact {}|omega|simp) [zS]
 simp [vP,h1]
theorem c71 (l:Li):PC E 71 [.agg (encLi l)] [.i (.bool (vL l))]:=by
 refine zP hE Proofs.Tryz.func71 Proofs.Tryz.ntmps71 rfl rfl ?_
 simp (maxSteps:=999999) (disch:=first|exact {}|omega|simp) [zS,encLi]
 refine zC (c109 _ _ _) ?_
 simp (maxSteps:=999999) (disch:=first|exact {}|omega|simp) [zS]
 (first | refine Gd.dec (fun h1=>?_) (fun h1=>?_) | refine Gd.intro (fun h1=>?_) (fun h1=>?_)) <;> simp (maxSteps:=999999) (disch:=first|exact {}|omega|simp) [zS,h1]
 rotate_left
 ·simp [vL,h1]
 refine zC (c136 l.off) ?_
 simp (maxSteps:=999999) (disch:=first|exact {}|omega|simp) [zS]
 simp [vL,h1]
theorem c241 (p:Pt):PC E 241 [.agg (encP p)] [.i (.bool (vP p))]:=by
 refine zP hE Proofs.Tryz.func241 Proofs.Tryz.ntmps241 rfl rfl ?_
 simp (maxSteps:=999999) (disch:=first|exact {}|omega|simp) [zS,encP]
 refine zC (c122 p.x) ?_
 simp (maxSteps:=999999) (disch:=first|exact {}|omega|simp) [zS]
 (first | refine Gd.dec (fun h1=>?_) (fun h1=>?_) | refine Gd.intro (fun h1=>?_) (fun h1=>?_)) <;> simp (maxSteps:=999999) (disch:=first|exact {}|omega|simp) [zS,h1]
 rotate_left
 ·simp [vP,h1]
 refine zC (c122 p.y) ?_
 simp (maxSteps:=999999) (disch:=first|exact {}|omega|simp) [zS]
 simp [vP,h1]
theorem c62 (l:Li):PC E 62 [.agg (encLi l)] [.i (.bool (vL l))]:=by
 refine zP hE Proofs.Tryz.func62 Proofs.Tryz.ntmps62 rfl rfl ?_
 simp (maxSteps:=999999) (disch:=first|exact {}|omega|simp) [zS,encLi]
 refine zC (c45 _ _ _) ?_
 simp (maxSteps:=999999) (disch:=first|exact {}|omega|simp) [zS]
 (first | refine Gd.dec (fun h1=>?_) (fun h1=>?_) | refine Gd.intro (fun h1=>?_) (fun h1=>?_)) <;> simp (maxSteps:=999999) (disch:=first|exact {}|omega|simp) [zS,h1]
 rotate_left
 ·simp [vL,h1]
 refine zC (c122 l.off) ?_
 simp (maxSteps:=999999) (disch:=first|exact {}|omega|simp) [zS]
 simp [vL,h1]
theorem c138 (p q:Pt) {K K' M M':Nat} (h:PB K M p) (h':PB K' M' q) (hK:K + K' ≤ 60) (hM:6 * (M * M') ≤ 4611686018427387904) (h2:M ≤ 2305843009213693952) :
  PC E 138 [.agg (encP p),.agg (encP q)] [.agg (encN (ndot p q))]:=by
 refine zP hE Proofs.Tryz.func138 Proofs.Tryz.ntmps138 rfl rfl ?_
 simp (maxSteps:=999999) (disch:=first|exact {}|omega|simp) [zS,encP]
 refine zC (c144 p.x q.x h.1 h'.1 hK (by omega) h2) ?_
 simp (maxSteps:=999999) (disch:=first|exact {}|omega|simp) [zS,encP]
 refine zC (c144 p.y q.y h.2 h'.2 hK (by omega) h2) ?_
 simp (maxSteps:=999999) (disch:=first|exact {}|omega|simp) [zS,encP]
 refine zC (c209 (nmul p.x q.x) (nmul p.y q.y) (h.1.mul h'.1) (h.2.mul h'.2) hK (by omega)) ?_
 simp (maxSteps:=999999) (disch:=first|exact {}|omega|simp) [zS,encN,ndot]
theorem c137 (l:Li) (h0:0 ≤ l.dir) (h1:l.dir ≤ 11):PC E 137 [.agg (encLi l)] [.agg (encP (vec (l.dir + 4)))]:=by
 refine zP hE Proofs.Tryz.func137 Proofs.Tryz.ntmps137 rfl rfl ?_
 simp (maxSteps:=999999) (disch:=first|exact {}|omega|simp) [zS,encLi]
 refine zC (c196 (l.dir + 4) (by omega) (by omega)) ?_
 simp (maxSteps:=999999) (disch:=first|exact {}|omega|simp) [zS,encP]
def lat (p:Pt) (d:Int):Li:=⟨d,ndot (vec (d + 4)) p⟩
theorem c142 (p:Pt) (d:Int) {K M:Nat} (h:PB K M p) (hK:K ≤ 60) (hM:6 * M ≤ 4611686018427387904) (h0:0 ≤ d) (h1:d ≤ 11) :
  PC E 142 [.agg (encP p),.i (.int .i64 d)] [.agg (encLi (lat p d))]:=by
 refine zP hE Proofs.Tryz.func142 Proofs.Tryz.ntmps142 rfl rfl ?_
 simp (maxSteps:=999999) (disch:=first|exact {}|omega|simp) [zS]
 refine zC (c137 ⟨d,⟨0,0,0⟩⟩ h0 h1) ?_
 simp (maxSteps:=999999) (disch:=first|exact {}|omega|simp) [zS]
 refine zC (c138 (vec (d + 4)) p (vec_PB (by omega) (by omega)) h (by omega) (by omega) (by decide)) ?_
 simp (maxSteps:=999999) (disch:=first|exact {}|omega|simp) [zS,encN,encLi,lat]
theorem c73 (l:Li) (p:Pt) {K M M':Nat} (h:PB K M p) (h':NB K M' l.off) (hK:K ≤ 60) (hM:6 * M + M' ≤ 4611686018427387904) (h0:0 ≤ l.dir) (h1:l.dir ≤ 11) :
  PC E 73 [.agg (encLi l),.agg (encP p)] [.i (.int .i64 (nsign (nsub (ndot (vec (l.dir + 4)) p) l.off)))]:=by
 refine zP hE Proofs.Tryz.func73 Proofs.Tryz.ntmps73 rfl rfl ?_
 simp (maxSteps:=999999) (disch:=first|exact {}|omega|simp) [zS]
 refine zC (c137 l h0 h1) ?_
 simp (maxSteps:=999999) (disch:=first|exact {}|omega|simp) [zS]
 have hd:=(vec_PB (d:=l.dir + 4) (by omega) (by omega)).dot h
 simp only [Nat.zero_add,Nat.one_mul] at hd
 refine zC (c138 (vec (l.dir + 4)) p (vec_PB (by omega) (by omega)) h (by omega) (by omega) (by decide)) ?_
 simp (maxSteps:=999999) (disch:=first|exact {}|omega|simp) [zS,encLi]
 refine zC (c139 (ndot (vec (l.dir + 4)) p) l.off hd h' hK hM) ?_
 simp (maxSteps:=999999) (disch:=first|exact {}|omega|simp) [zS]
 have hs:=hd.sub h'
 refine zC (c140 _ (hs.i64 hM hK) (hs.ne hM).1 (hs.ne hM).2) ?_
 simp (maxSteps:=999999) (disch:=first|exact {}|omega|simp) [zS]
theorem c124 (p:Pt):PC E 124 [.agg (encP p)] [.agg (encP p)]:=by
 refine zP hE Proofs.Tryz.func124 Proofs.Tryz.ntmps124 rfl rfl ?_
 simp (maxSteps:=999999) (disch:=first|exact {}|omega|simp) [zS,encP]
 refine zC (c123 p.x) ?_
 simp (maxSteps:=999999) (disch:=first|exact {}|omega|simp) [zS]
 refine zC (c123 p.y) ?_
 simp (maxSteps:=999999) (disch:=first|exact {}|omega|simp) [zS,encN]
theorem c63 (l:Li):PC E 63 [.agg (encLi l)] [.agg (encLi l)]:=by
 refine zP hE Proofs.Tryz.func63 Proofs.Tryz.ntmps63 rfl rfl ?_
 simp (maxSteps:=999999) (disch:=first|exact {}|omega|simp) [zS,encLi]
 refine zC (c123 l.off) ?_
 simp (maxSteps:=999999) (disch:=first|exact {}|omega|simp) [zS,encN]
theorem c129 (d:Int) (p:Pt) {K M:Nat} (h:PB K M p) (hK:K ≤ 60) (hM:6 * M ≤ 4611686018427387904) (h0:-4611686018427387904 ≤ d) (h1:d ≤ 4611686018427387904) :
  PC E 129 [.i (.int .i64 d),.agg (encP p)] [.agg (encN (ndot (vec (d % 16)) p))]:=by
 refine zP hE Proofs.Tryz.func129 Proofs.Tryz.ntmps129 rfl rfl ?_
 have hv:=vec_PB (d:=d % 16) (by omega) (by omega)
 simp (maxSteps:=999999) (disch:=first|exact {}|omega|simp) [zS]
 refine zC (c132 d h0 h1) ?_
 simp (maxSteps:=999999) (disch:=first|exact {}|omega|simp) [zS]
 refine zC (c124 (vec (d % 16))) ?_
 simp (maxSteps:=999999) (disch:=first|exact {}|omega|simp) [zS,encP]
 have b1:=hv.1.mul h.1
 have b2:=hv.2.mul h.2
 simp only [Nat.zero_add,Nat.one_mul] at b1 b2
 refine zC (c133 (vec (d % 16)).x p.x hv.1 h.1 (by omega) (by omega) (by decide)) ?_
 simp (maxSteps:=999999) (disch:=first|exact {}|omega|simp) [zS,encP]
 refine zC (c133 (vec (d % 16)).y p.y hv.2 h.2 (by omega) (by omega) (by decide)) ?_
 simp (maxSteps:=999999) (disch:=first|exact {}|omega|simp) [zS,encP]
 refine zC (c205 _ _ b1 b2 hK (by omega)) ?_
 simp (maxSteps:=999999) (disch:=first|exact {}|omega|simp) [zS,encN,ndot]
theorem mod16 {d:Int} (h0:0 ≤ d) (h1:d ≤ 15):d % 16 = d:=by omega
theorem c65 (l:Li) (p:Pt) {K M M':Nat} (h:PB K M p) (h':NB K M' l.off) (hK:K ≤ 60) (hM:6 * M + M' ≤ 4611686018427387904) (h0:0 ≤ l.dir) (h1:l.dir ≤ 11) :
  PC E 65 [.agg (encLi l),.agg (encP p)] [.i (.int .i64 (nsign (nsub (ndot (vec (l.dir + 4)) p) l.off)))]:=by
 refine zP hE Proofs.Tryz.func65 Proofs.Tryz.ntmps65 rfl rfl ?_
 have hd:=(vec_PB (d:=l.dir + 4) (by omega) (by omega)).dot h
 simp only [Nat.zero_add,Nat.one_mul] at hd
 simp (maxSteps:=999999) (disch:=first|exact {}|omega|simp) [zS,encLi]
 refine zC (c129 (l.dir + 4) p h hK (by omega) (by omega) (by omega)) ?_
 rw [mod16 (by omega) (by omega)]
 simp (maxSteps:=999999) (disch:=first|exact {}|omega|simp) [zS]
 refine zC (c128 (ndot (vec (l.dir + 4)) p) l.off hd h' hK hM) ?_
 simp (maxSteps:=999999) (disch:=first|exact {}|omega|simp) [zS]
 have hs:=hd.sub h'
 refine zC (c127 _ (hs.i64 hM hK) (hs.ne hM).1 (hs.ne hM).2) ?_
 simp (maxSteps:=999999) (disch:=first|exact {}|omega|simp) [zS]
theorem isLowF:∀ (n:Nat) (x:Nu),n = x.k.toNat → 0 ≤ x.k → ¬ (0 < (lowF n x).k ∧ (lowF n x).a % 2 = 0 ∧ (lowF n x).b % 2 = 0)
 | 0,x,h,h0=>by simp only [lowF]; omega
 | n + 1,x,h,h0=>by
  simp only [lowF]
  split
  ·exact isLowF n _ (by simp only; omega) (by simp only; omega)
  ·assumption
theorem lowF_nz:∀ (n:Nat) (x:Nu),¬ (x.a = 0 ∧ x.b = 0) → ¬ ((lowF n x).a = 0 ∧ (lowF n x).b = 0)
 | 0,x,h=>h
 | n + 1,x,h=>by
  simp only [lowF]
  split
  ·exact lowF_nz n _ (by simp only; omega)
  ·exact h
theorem low_low {x:Nu} (h0:0 ≤ x.k):low (low x) = low x:=by
 refine low_end ?_ ?_
 ·unfold low; split
  ·simp
  ·exact isLowF _ x rfl h0
 ·intro hz
  unfold low at hz ⊢
  split at hz
  ·rename_i h; rw [if_pos h]
  ·rename_i h; exact absurd hz (lowF_nz _ x h)
theorem low_nadd {x y:Nu} (h:0 ≤ x.k):low (nadd x y) = nadd x y:=low_low (by simp only; omega)
end Go.Vai
namespace Go.Vai
theorem typedZ {n:Nat} {el:List IV} (h:Typed E n 2 el):∃ x,el = [.int .i64 x] ∧ -9223372036854775808 ≤ x ∧ x ≤ 9223372036854775807:=by
 cases n with
 | zero=>exact h.elim
 | succ n =>
  simp only [Typed,k2] at h
  obtain ⟨x,rfl,hw⟩:=h
  refine ⟨x,rfl, ?_⟩
  simp only [Lit.wf,Bool.and_eq_true,decide_eq_true_eq] at hw
  have h1:IntKind.i64.min = -9223372036854775808:=by decide
  have h2:IntKind.i64.max = 9223372036854775807:=by decide
  omega
theorem typedNu {n:Nat} {el:List IV} (h:Typed E n 43 el):∃ x:Nu,el = encN x ∧ x.i64:=by
 cases n with
 | zero=>exact h.elim
 | succ n =>
  simp only [Typed,k43,fieldsT] at h
  obtain ⟨a0,b0,rfl,h0,a1,b1,rfl,h1,a2,b2,rfl,h2,rfl⟩:=h
  obtain ⟨x0,rfl,l0⟩:=typedZ h0
  obtain ⟨x1,rfl,l1⟩:=typedZ h1
  obtain ⟨x2,rfl,l2⟩:=typedZ h2
  exact ⟨⟨x0,x1,x2⟩,rfl,l0,l1,l2⟩
theorem typedPt {n:Nat} {el:List IV} (h:Typed E n 122 el):∃ p:Pt,el = encP p ∧ p.x.i64 ∧ p.y.i64:=by
 cases n with
 | zero=>exact h.elim
 | succ n =>
  simp only [Typed,k122,fieldsT] at h
  obtain ⟨a0,b0,rfl,h0,a1,b1,rfl,h1,rfl⟩:=h
  obtain ⟨x,rfl,hx⟩:=typedNu h0
  obtain ⟨y,rfl,hy⟩:=typedNu h1
  exact ⟨⟨x,y⟩,rfl,hx,hy⟩
theorem typedLi {n:Nat} {el:List IV} (h:Typed E n 45 el):∃ l:Li,el = encLi l ∧ l.off.i64:=by
 cases n with
 | zero=>exact h.elim
 | succ n =>
  simp only [Typed,k45,fieldsT] at h
  obtain ⟨a0,b0,rfl,h0,a1,b1,rfl,h1,rfl⟩:=h
  obtain ⟨x,rfl,hx⟩:=typedZ h0
  obtain ⟨y,rfl,hy⟩:=typedNu h1
  exact ⟨⟨x,y⟩,rfl,hy⟩
theorem c70 (x:Nu):PC E 70 [.agg (encN x)] [.agg (encN x)]:=by
 refine zP hE Proofs.Tryz.func70 Proofs.Tryz.ntmps70 rfl rfl ?_
 simp (maxSteps:=999999) (disch:=first|exact {}|omega|simp) [zS,encN]
theorem c152 (x y:Nu):PC E 152 [.agg (encN x),.agg (encN y)] [.i (.bool (decide (x = y)))]:=by
 refine zP hE Proofs.Tryz.func152 Proofs.Tryz.ntmps152 rfl rfl ?_
 obtain ⟨a,b,k⟩:=x
 obtain ⟨a',b',k'⟩:=y
 simp (maxSteps:=999999) (disch:=first|exact {}|omega|simp) [zS,encN]
 (first | refine Gd.dec (fun h0=>?_) (fun h0=>?_) | refine Gd.intro (fun h0=>?_) (fun h0=>?_)) <;> simp (maxSteps:=999999) (disch:=first|exact {}|omega|simp) [zS,h0]
 (first | refine Gd.dec (fun h1=>?_) (fun h1=>?_) | refine Gd.intro (fun h1=>?_) (fun h1=>?_)) <;> simp (maxSteps:=999999) (disch:=first|exact {}|omega|simp) [zS,h1]
 (first | refine Gd.dec (fun h2=>?_) (fun h2=>?_) | refine Gd.intro (fun h2=>?_) (fun h2=>?_)) <;> simp (maxSteps:=999999) (disch:=first|exact {}|omega|simp) [zS,h2]
theorem c99 (p:Pt):PC E 99 [.agg (encP p)] [.agg (encP p)]:=by
 refine zP hE Proofs.Tryz.func99 Proofs.Tryz.ntmps99 rfl rfl ?_
 simp (maxSteps:=999999) (disch:=first|exact {}|omega|simp) [zS,encP]
 refine zC (c70 p.x) ?_
 simp (maxSteps:=999999) (disch:=first|exact {}|omega|simp) [zS,encN]
 refine zC (c70 p.y) ?_
 simp (maxSteps:=999999) (disch:=first|exact {}|omega|simp) [zS,encN]
theorem c28 (l:Li):PC E 28 [.agg (encLi l)] [.agg (encLi l)]:=by
 refine zP hE Proofs.Tryz.func28 Proofs.Tryz.ntmps28 rfl rfl ?_
 simp (maxSteps:=999999) (disch:=first|exact {}|omega|simp) [zS,encLi]
 refine zC (c70 l.off) ?_
 simp (maxSteps:=999999) (disch:=first|exact {}|omega|simp) [zS,encN]
theorem c81 (x y:Pt):PC E 81 [.agg (encP x),.agg (encP y)] [.i (.bool (decide (x = y)))]:=by
 refine zP hE Proofs.Tryz.func81 Proofs.Tryz.ntmps81 rfl rfl ?_
 obtain ⟨a,b⟩:=x
 obtain ⟨a',b'⟩:=y
 simp (maxSteps:=999999) (disch:=first|exact {}|omega|simp) [zS,encP]
 refine zC (c152 a a') ?_
 simp (maxSteps:=999999) (disch:=first|exact {}|omega|simp) [zS]
 (first | refine Gd.dec (fun h0=>?_) (fun h0=>?_) | refine Gd.intro (fun h0=>?_) (fun h0=>?_)) <;> simp (maxSteps:=999999) (disch:=first|exact {}|omega|simp) [zS,h0]
 refine zC (c152 b b') ?_
 simp (maxSteps:=999999) (disch:=first|exact {}|omega|simp) [zS]
 (first | refine Gd.dec (fun h1=>?_) (fun h1=>?_) | refine Gd.intro (fun h1=>?_) (fun h1=>?_)) <;> simp (maxSteps:=999999) (disch:=first|exact {}|omega|simp) [zS,h1]
end Go.Vai
