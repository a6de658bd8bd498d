/- Texts of this claim: Zg5, Zg6, Zg7, Zg9, Zg8, Zg10, Zg11. -/
import Derived.Test.YtiipeibaiphmpaaGreatDoorTb13
import Derived.Test.YtiipeibaiphmpaaGreatDoorTb70
set_option linter.unusedVariables false
set_option linter.unusedSimpArgs false
set_option maxHeartbeats 4000000
namespace Go.Vai
theorem sd_same {l:Li} {p q:Pt} (hl:Lok l) (hp:PK p) (hq:PK q) (h:val (ndot (vec (l.dir + 4)) p) = val (ndot (vec (l.dir + 4)) q)):sd l p = sd l q:=by
 have hv:=vec_k (l.dir + 4)
 have:=val_inj (ndot_k hv hp) (ndot_k hv hq) (low_ndot hv hp) (low_ndot hv hq) h
 unfold sd; rw [this]
theorem not_opp (s d:Int):¬ s * d * (s * d) < 0:=by
 rcases Int.le_total 0 (s * d) with h | h
 ·have:=Int.mul_nonneg h h; omega
 ·have:=Int.mul_nonneg_of_nonpos_of_nonpos h h; omega
theorem opp {l L:Li} {p q:Pt} {s:Int} (hl:Lok l) (hL:Lok L) (hp:PK p) (hq:PK q) (h1:on L p) (h2:on L q) (hx:s * sd l p * (s * sd l q) < 0) :
  ¬ (val q.x = val p.x ∧ val q.y = val p.y) ∧ L.dir ≠ l.dir:=by
 have hv:=vec_k (l.dir + 4)
 refine ⟨?_, ?_⟩
 ·rintro ⟨e1,e2⟩
  rw [sd_same hl hp hq (by rw [val_ndot hv hp,val_ndot hv hq,e1,e2])] at hx
  exact not_opp _ _ hx
 ·intro e
  unfold on at h1 h2
  rw [e] at h1 h2
  rw [sd_same hl hp hq (by rw [val_ndot hv hp,val_ndot hv hq,h1,h2])] at hx
  exact not_opp _ _ hx
def link (S:List Li) (p q:Pt):Prop:=∃ L ∈ S,on L p ∧ on L q
def SOk (K M:Nat) (S:List Li):Prop:=∀ L ∈ S,Lok L ∧ NB K M L.off
def Chain (S:List Li) (ps:List Pt):Prop:=∀ k,k < ps.length → link S (nth ps k) (nxt ps k)
theorem Chain.good {K M:Nat} {S:List Li} {ps:List Pt} {l:Li} {s:Int} (h:Chain S ps) (hS:SOk K M S) (hl:Lok l) (hp:∀ p ∈ ps,PK p):Good K M l s ps:=by
 intro k hk hx
 have hmod:(k + 1) % ps.length < ps.length:=Nat.mod_lt _ (by omega)
 obtain ⟨L,h1,h2,h3⟩:=h k hk
 have p1:=hp _ (nth_mem hk)
 have p2:PK (nxt ps k):=hp _ (nth_mem hmod)
 obtain ⟨q1,q2⟩:=opp hl (hS L h1).1 p1 p2 h2 h3 hx
 obtain ⟨r1,r2⟩:=sideL_on (hS L h1).1 p1 p2 h2 h3 q1
 rw [r2]
 exact ⟨r1,q2,(hS L h1).2⟩
end Go.Vai
namespace Go.Vai
theorem nth_rot {l:List Pt} {c k:Nat} (hc:c ≤ l.length) (hk:k < l.length):nth (l.drop c ++ l.take c) k = nth l ((k + c) % l.length):=by
 have hm:(k + c) % l.length < l.length:=Nat.mod_lt _ (by omega)
 rw [nth_eq hm]
 have hlen:(l.drop c ++ l.take c).length = l.length:=by simp; omega
 rw [nth_eq (by rw [hlen]; exact hk)]
 rw [List.getElem_append]
 split
 ·rename_i h
  simp at h
  rw [List.getElem_drop]
  congr 1
  rw [Nat.mod_eq_of_lt (by omega)]; omega
 ·rename_i h
  simp at h
  rw [List.getElem_take]
  congr 1
  rw [Nat.mod_eq_sub_mod (by omega),Nat.mod_eq_of_lt (by omega)]
  simp; omega
def pt (ps:List Pt) (k:Nat):Pt:=nth ps (k % ps.length)
theorem pt_lt {ps:List Pt} {k:Nat} (h:k < ps.length):pt ps k = nth ps k:=by unfold pt; rw [Nat.mod_eq_of_lt h]
end Go.Vai
namespace Go.Vai
theorem sideL_ok {p q:Pt} (hp:PK p):Lok (sideL p q):=lat_ok hp (by omega) (by omega)
theorem side_ends {p q:Pt} (hp:PK p) (hq:PK q) (h:0 ≤ dirR (pminus q p)):on (sideL p q) p ∧ on (sideL p q) q:=by
 have h1:on (sideL p q) p:=lat_on _ hp
 refine ⟨h1, ?_⟩
 have hw:PK (pminus q p):=pk_minus hq
 have wx:val (pminus q p).x = val q.x - val p.x:=val_nsub hq.1 hp.1
 have wy:val (pminus q p).y = val q.y - val p.y:=val_nsub hq.2 hp.2
 obtain ⟨i,hi,hid,hdr⟩:∃ i,i < 16 ∧ isDir (pminus q p) i = true ∧ dirR (pminus q p) = (i:Int):=by
  unfold dirR at h ⊢
  cases hf:(List.range 16).find? (isDir (pminus q p)) with
  | none=>rw [hf] at h; simp at h
  | some i=>exact ⟨i,List.mem_range.1 (List.mem_of_find?_eq_some hf),List.find?_some hf,rfl⟩
 have hci:pcross (vec i) (pminus q p) = ⟨0,0,0⟩:=by
  unfold isDir at hid
  simp only [Bool.and_eq_true,decide_eq_true_eq] at hid
  exact hid.1
 have hz:val (pcross (vec i) (pminus q p)) = 0:=by rw [hci]; exact val_zero
 rw [val_pcross (vec_k i) hw,wx,wy] at hz
 have hd:(sideL p q).dir = (i:Int) % 8:=by unfold sideL lat; rw [hdr]
 have hv:val (vec ((i:Int) % 8)).x * (val q.y - val p.y) - val (vec ((i:Int) % 8)).y * (val q.x - val p.x) = 0:=by
  by_cases h8:i < 8
  ·rw [show (i:Int) % 8 = i by omega]; exact hz
  ·have e:(i:Int) = (i:Int) % 8 + 8:=by omega
   rw [e,vec_half (by omega) (by omega)] at hz
   simp only [val_nneg] at hz
   grind
 have ht:vec ((sideL p q).dir + 4) = ⟨nneg (vec ((i:Int) % 8)).y,(vec ((i:Int) % 8)).x⟩:=by
  rw [hd]
  have:=vec_turn (d:=(i:Int) % 8) (by omega) (by omega)
  rwa [Int.emod_eq_of_lt (by omega) (by omega)] at this
 unfold on at h1 ⊢
 rw [ht] at h1 ⊢
 simp only [val_nneg] at h1 ⊢
 grind
def MM:Nat:=805306368
theorem side_NB {p q:Pt} (hp:PB 10 134217728 p):NB 10 MM (sideL p q).off:=by
 have:=(vec_PB (d:=dirR (pminus q p) % 8 + 4) (by omega) (by omega)).dot hp
 simp only [Nat.zero_add,Nat.one_mul] at this
 exact this
structure Poly (l:List Pt):Prop where
 v:∀ p ∈ l,PB 10 134217728 p
 d:∀ k,k < l.length → 0 ≤ dl l k
theorem Poly.pk {l:List Pt} (h:Poly l):∀ p ∈ l,PK p:=fun p hp=>(h.v p hp).pk
def linesOf (l:List Pt):List Li:=(List.range l.length).map fun k=>sideL (nth l k) (nxt l k)
theorem nxt_mem {l:List Pt} {k:Nat} (h:k < l.length):nxt l k ∈ l:=nth_mem (Nat.mod_lt _ (by omega))
theorem Poly.chain {l:List Pt} (h:Poly l):SOk 10 MM (linesOf l) ∧ Chain (linesOf l) l:=by
 refine ⟨fun L hL=>?_,fun k hk=>?_⟩
 ·obtain ⟨k,hk,rfl⟩:=List.mem_map.1 hL
  have hk':=List.mem_range.1 hk
  exact ⟨sideL_ok (h.pk _ (nth_mem hk')),side_NB (h.v _ (nth_mem hk'))⟩
 ·obtain ⟨e1,e2⟩:=side_ends (h.pk _ (nth_mem hk)) (h.pk _ (nxt_mem hk)) (h.d k hk)
  exact ⟨_,List.mem_map.2 ⟨k,List.mem_range.2 hk,rfl⟩,e1,e2⟩
def Fine (ps:List Pt):Prop:=∃ S,SOk 10 MM S ∧ Chain S ps ∧ ∀ p ∈ ps,PK p
theorem partR_eq (l:Li) (s:Int) (ps:List Pt):partR l s ps = if hasN l s ps ps.length = true then rot0 (halfR l s ps) else halfR l s ps:=by
 unfold partR halfR; split <;> simp_all
theorem Fine.good {ps:List Pt} {l:Li} {s:Int} (h:Fine ps) (hl:Lok l):Good 10 MM l s ps:=by
 obtain ⟨S,h1,h2,h3⟩:=h
 exact h2.good h1 hl h3
theorem Poly.fine {l:List Pt} (h:Poly l):Fine l:=⟨_,h.chain.1,h.chain.2,h.pk⟩
def MP:Nat:=576 * MM
theorem up13 {p:Pt} (h:PB 10 134217728 p):PB (10 + 3) MP p:=by
 have:=h.up (K':=13) (by decide)
 exact this.mono (by decide)
end Go.Vai
namespace Go.Vai
def Pos (x:Q2):Prop:=∃ r s:Rat,0 < r ∧ r * r < 2 ∧ 0 < s ∧ 2 < s * s ∧ 0 < x.a + x.b * r ∧ 0 < x.a + x.b * s
theorem rs_lt {r s:Rat} (hr:0 < r) (h:r * r < 2) (hs:0 < s) (h':2 < s * s):r < s:=by
 rcases (Rat.le_total:s ≤ r ∨ r ≤ s) with hle | hlt
 ·have h1:s * s ≤ r * r:=by
   have a:=Rat.mul_le_mul_of_nonneg_left hle (Rat.le_of_lt hs)
   have b:=Rat.mul_le_mul_of_nonneg_right hle (Rat.le_of_lt hr)
   grind
  grind
 ·grind
theorem lin_between {a b r s t:Rat} (h1:0 < a + b * r) (h2:0 < a + b * s) (hr:r ≤ t) (hs:t ≤ s):0 < a + b * t:=by
 rcases (Rat.le_total:0 ≤ b ∨ b ≤ 0) with hb | hb
 ·have:=Rat.mul_le_mul_of_nonneg_left hr hb
  grind
 ·have:=Rat.mul_le_mul_of_nonneg_left hs (show 0 ≤ -b by grind)
  grind
theorem Pos.add {x y:Q2} (hx:Pos x) (hy:Pos y):Pos (x + y):=by
 obtain ⟨r,s,a1,a2,a3,a4,a5,a6⟩:=hx
 obtain ⟨r',s',b1,b2,b3,b4,b5,b6⟩:=hy
 have c1:=rs_lt a1 a2 b3 b4
 have c2:=rs_lt b1 b2 a3 a4
 have c3:=rs_lt a1 a2 a3 a4
 have c4:=rs_lt b1 b2 b3 b4
 rcases (Rat.le_total:r ≤ r' ∨ r' ≤ r) with h | h <;> rcases (Rat.le_total:s ≤ s' ∨ s' ≤ s) with g | g
 ·refine ⟨r',s,b1,b2,a3,a4, ?_, ?_⟩
  ·have:=lin_between a5 a6 h (Rat.le_of_lt c2); simp only [Q2.add_a,Q2.add_b]; grind
  ·have:=lin_between b5 b6 (Rat.le_of_lt c2) g; simp only [Q2.add_a,Q2.add_b]; grind
 ·refine ⟨r',s',b1,b2,b3,b4, ?_, ?_⟩
  ·have:=lin_between a5 a6 h (Rat.le_of_lt c2); simp only [Q2.add_a,Q2.add_b]; grind
  ·have:=lin_between a5 a6 (Rat.le_of_lt c1) g; simp only [Q2.add_a,Q2.add_b]; grind
 ·refine ⟨r,s,a1,a2,a3,a4, ?_, ?_⟩
  ·have:=lin_between b5 b6 h (Rat.le_of_lt c1); simp only [Q2.add_a,Q2.add_b]; grind
  ·have:=lin_between b5 b6 (Rat.le_of_lt c2) g; simp only [Q2.add_a,Q2.add_b]; grind
 ·refine ⟨r,s',a1,a2,b3,b4, ?_, ?_⟩
  ·have:=lin_between b5 b6 h (Rat.le_of_lt c1); simp only [Q2.add_a,Q2.add_b]; grind
  ·have:=lin_between a5 a6 (Rat.le_of_lt c1) g; simp only [Q2.add_a,Q2.add_b]; grind
theorem Pos.ne {x:Q2} (h:Pos x):x ≠ 0:=by
 rintro rfl
 obtain ⟨r,s,a1,a2,a3,a4,a5,a6⟩:=h
 simp only [Q2.zero_a,Q2.zero_b] at a5
 grind
theorem pos_one {x:Q2} (ha:0 ≤ x.a) (hb:0 ≤ x.b) (h:0 < x.a ∨ 0 < x.b):Pos x:=by
 refine ⟨1,2,by grind,by grind,by grind,by grind, ?_, ?_⟩
 ·rcases h with h | h <;> grind
 ·rcases h with h | h <;> grind
theorem Pos.scale {x:Q2} (h:Pos x) {c:Rat} (hc:0 < c):Pos ⟨c * x.a,c * x.b⟩:=by
 obtain ⟨r,s,a1,a2,a3,a4,a5,a6⟩:=h
 refine ⟨r,s,a1,a2,a3,a4, ?_, ?_⟩
 ·have:=Rat.mul_pos hc a5; simp only; grind
 ·have:=Rat.mul_pos hc a6; simp only; grind
theorem inv_pos {r:Rat} (h:0 < r):0 < 2 / r:=by
 have:=Rat.inv_pos.2 h
 rw [Rat.div_def]; exact Rat.mul_pos (by grind) this
theorem Pos.root {x:Q2} (h:Pos x):Pos ⟨2 * x.b,x.a⟩:=by
 obtain ⟨r,s,a1,a2,a3,a4,a5,a6⟩:=h
 have i1:=inv_pos a1
 have i2:=inv_pos a3
 have e1:(2 / r) * r = 2:=by grind
 have e2:(2 / s) * s = 2:=by grind
 generalize 2 / r = u at *
 generalize 2 / s = v at *
 refine ⟨v,u,i2, ?_,i1, ?_, ?_, ?_⟩
 ·have h1:=Rat.mul_pos i2 i2
  have h2:(v * v) * (s * s) = 4:=by grind
  have h3:0 < (v * v) * (s * s - 2):=Rat.mul_pos h1 (by grind)
  grind
 ·have h1:=Rat.mul_pos i1 i1
  have h2:(u * u) * (r * r) = 4:=by grind
  have h3:0 < (u * u) * (2 - r * r):=Rat.mul_pos h1 (by grind)
  grind
 ·have:=Rat.mul_pos i2 a6
  have e:v * (x.a + x.b * s) = 2 * x.b + x.a * v:=by grind
  rw [e] at this; exact this
 ·have:=Rat.mul_pos i1 a5
  have e:u * (x.a + x.b * r) = 2 * x.b + x.a * u:=by grind
  rw [e] at this; exact this
theorem pos_left {a b:Rat} (ha:0 < a) (hb:b < 0) (h:2 * (b * b) < a * a):Pos ⟨a,b⟩:=by
 have hb':0 < -b:=by grind
 have i:=Rat.inv_pos.2 hb'
 have ia:=Rat.inv_pos.2 ha
 obtain ⟨t,ht⟩:∃ t:Rat,t = a * (-b)⁻¹:=⟨_,rfl⟩
 have t0:0 < t:=by rw [ht]; exact Rat.mul_pos ha i
 have e1:t * (-b) = a:=by grind
 have bb:0 < b * b:=by have:=Rat.mul_pos hb' hb'; grind
 have t2:2 < t * t:=by
  have e:(t * t) * (b * b) = a * a:=by grind
  rcases (Rat.le_total:t * t ≤ 2 ∨ 2 ≤ t * t) with g | g
  ·have:=Rat.mul_le_mul_of_nonneg_right g (Rat.le_of_lt bb)
   grind
  ·rcases (Rat.le_total:t * t ≤ 2 ∨ 2 ≤ t * t) with g' | g'
   ·have:=Rat.mul_le_mul_of_nonneg_right g' (Rat.le_of_lt bb); grind
   ·have hne:t * t ≠ 2:=by intro h2; rw [h2] at e; grind
    grind
 have v0:=inv_pos t0
 have e2:(2 / t) * t = 2:=by grind
 generalize 2 / t = v at *
 have vt:v < t:=by
  rcases (Rat.le_total:v ≤ t ∨ t ≤ v) with g | g
  ·have hne:v ≠ t:=by rintro rfl; grind
   grind
  ·have:=Rat.mul_le_mul_of_nonneg_right g (Rat.le_of_lt t0); grind
 refine ⟨1,(t + v) / 2,by grind,by grind,by grind, ?_, ?_, ?_⟩
 ·have:0 < (t - v) * (t - v):=Rat.mul_pos (by grind) (by grind)
  grind
 ·simp only
  have:1 < t:=by
   rcases (Rat.le_total:t ≤ 1 ∨ 1 ≤ t) with g | g
   ·have:=Rat.mul_le_mul_of_nonneg_right g (Rat.le_of_lt t0); grind
   ·have hne:t ≠ 1:=by rintro rfl; grind
    grind
  have:=Rat.mul_pos (show 0 < t - 1 by grind) hb'
  grind
 ·simp only
  have:=Rat.mul_pos (show 0 < t - (t + v) / 2 by grind) hb'
  grind
theorem pos_right {a b:Rat} (ha:a < 0) (hb:0 < b) (h:a * a < 2 * (b * b)):Pos ⟨a,b⟩:=by
 have h1:Pos ⟨2 * b,a⟩:=pos_left (by grind) ha (by grind)
 have h2:=h1.root.scale (c:=1 / 2) (by grind)
 simp only at h2
 have e1:(1 / 2:Rat) * (2 * a) = a:=by grind
 have e2:(1 / 2:Rat) * (2 * b) = b:=by grind
 rwa [e1,e2] at h2
theorem pr_pos (k:Int):0 < pr k:=by
 unfold pr; exact_mod_cast pw_pos k
theorem sgn_one {n:Int}:sgn n = 1 ↔ 0 < n:=by unfold sgn; split <;> (try split) <;> omega
theorem pos_int {a b:Int} (h:nsign ⟨a,b,0⟩ = 1):Pos ⟨(a:Rat),(b:Rat)⟩:=by
 unfold nsign at h
 simp only at h
 split at h
 ·rename_i hc
  have ha:=sgn_one.1 h
  rcases hc with hc | hc
  ·have hb:0 < b:=sgn_one.1 (by rw [← hc]; exact h)
   exact pos_one (by simp only; exact_mod_cast Int.le_of_lt ha) (by simp only; exact_mod_cast Int.le_of_lt hb) (.inl (by simp only; exact_mod_cast ha))
  ·have hb:=sgn_zero.1 hc
   subst hb
   exact pos_one (by simp only; exact_mod_cast Int.le_of_lt ha) (by simp) (.inl (by simp only; exact_mod_cast ha))
 ·rename_i hc
  split at h
  ·rename_i hd
   have hb:=sgn_one.1 h
   by_cases ha:a < 0
   ·rcases hd with hd | hd
    ·have:=sgn_zero.1 hd; omega
    ·have hle:a * a ≤ 2 * (b * b):=by omega
     have hne:a * a ≠ 2 * (b * b):=by
      intro he
      have:=irr he
      omega
     have hlt:a * a < 2 * (b * b):=by omega
     exact pos_right (by exact_mod_cast ha) (by exact_mod_cast hb) (by exact_mod_cast hlt)
   ·exact pos_one (by simp only; exact_mod_cast (show 0 ≤ a by omega)) (by simp only; exact_mod_cast Int.le_of_lt hb) (.inr (by simp only; exact_mod_cast hb))
  ·rename_i hd
   have ha:=sgn_one.1 h
   have hlt:2 * (b * b) < a * a:=by
    by_cases hx:2 * (b * b) < a * a
    ·exact hx
    ·exact absurd (.inr hx) hd
   by_cases hb:b < 0
   ·exact pos_left (by exact_mod_cast ha) (by exact_mod_cast hb) (by exact_mod_cast hlt)
   ·exact pos_one (by simp only; exact_mod_cast Int.le_of_lt ha) (by simp only; exact_mod_cast (show 0 ≤ b by omega)) (.inl (by simp only; exact_mod_cast ha))
theorem pos_of {x:Nu} (h:nsign x = 1):Pos (val x):=by
 have h1:=(pos_int (a:=x.a) (b:=x.b) h).scale (c:=(pr x.k)⁻¹) (Rat.inv_pos.2 (pr_pos _))
 have e:val x = ⟨(pr x.k)⁻¹ * (x.a:Rat),(pr x.k)⁻¹ * (x.b:Rat)⟩:=by
  apply Q2.ext' <;> simp only [val,Rat.div_def] <;> grind
 rw [e]; exact h1
theorem Pos.mul {x:Q2} (h:Pos x) {u v:Rat} (hu:0 ≤ u) (hv:0 ≤ v) (hz:0 < u ∨ 0 < v):Pos (⟨u,v⟩ * x):=by
 have e:(⟨u,v⟩ * x:Q2) = ⟨u * x.a + 2 * (v * x.b),u * x.b + v * x.a⟩:=rfl
 rw [e]
 by_cases h1:0 < u <;> by_cases h2:0 < v
 ·have:=(h.scale h1).add (h.root.scale h2)
  have e2:((⟨u * x.a,u * x.b⟩:Q2) + ⟨v * (2 * x.b),v * x.a⟩) = ⟨u * x.a + 2 * (v * x.b),u * x.b + v * x.a⟩:=Q2.ext' (by simp only [Q2.add_a]; grind) (by simp only [Q2.add_b])
  simp only at this
  rwa [e2] at this
 ·have hv0:v = 0:=by grind
  subst hv0
  have:=h.scale h1
  have e2:(⟨u * x.a + 2 * (0 * x.b),u * x.b + 0 * x.a⟩:Q2) = ⟨u * x.a,u * x.b⟩:=Q2.ext' (by simp only; grind) (by simp only; grind)
  rw [e2]; exact this
 ·have hu0:u = 0:=by grind
  subst hu0
  have:=h.root.scale h2
  have e2:(⟨0 * x.a + 2 * (v * x.b),0 * x.b + v * x.a⟩:Q2) = ⟨v * (2 * x.b),v * x.a⟩:=Q2.ext' (by simp only; grind) (by simp only; grind)
  rw [e2]; exact this
 ·exfalso; rcases hz with h | h <;> contradiction
def nnB (c:Nu):Bool:=decide (c.k = 0) && decide (0 ≤ c.a) && decide (0 ≤ c.b) && (decide (0 < c.a) || decide (0 < c.b))
theorem nn_mul {c:Nu} {x:Q2} (hc:nnB c = true) (h:Pos x):Pos (val c * x):=by
 simp only [nnB,Bool.and_eq_true,Bool.or_eq_true,decide_eq_true_eq] at hc
 obtain ⟨⟨⟨h1,h2⟩,h3⟩,h4⟩:=hc
 have e0:pr c.k = 1:=by rw [h1]; rfl
 have e:val c = ⟨(c.a:Rat),(c.b:Rat)⟩:=by apply Q2.ext' <;> simp only [val,e0] <;> grind
 rw [e]
 exact h.mul (by exact_mod_cast h2) (by exact_mod_cast h3) (by
  rcases h4 with h | h
  ·exact .inl (by exact_mod_cast h)
  ·exact .inr (by exact_mod_cast h))
def wN:Nu:=⟨1,1,0⟩
theorem sq_plain {t:Int} (h0:0 ≤ t) (h1:t ≤ 15):nnB (nmul wN (ndot (vec t) (vec t))) = true:=by
 rcases dir16 h0 h1 with rfl | rfl | rfl | rfl | rfl | rfl | rfl | rfl | rfl | rfl | rfl | rfl | rfl | rfl | rfl | rfl <;> decide
theorem near_plain {t m:Int} (h0:0 ≤ t) (h1:t ≤ 15) (g0:0 ≤ m) (g1:m ≤ 15) (h:(m - t) % 16 ≤ 3 ∨ 13 ≤ (m - t) % 16):nnB (nmul wN (ndot (vec m) (vec t))) = true:=by
 rcases dir16 h0 h1 with rfl | rfl | rfl | rfl | rfl | rfl | rfl | rfl | rfl | rfl | rfl | rfl | rfl | rfl | rfl | rfl <;>
  rcases dir16 g0 g1 with rfl | rfl | rfl | rfl | rfl | rfl | rfl | rfl | rfl | rfl | rfl | rfl | rfl | rfl | rfl | rfl <;>
  first | (exfalso; omega) | decide
theorem dir_pos {w:Pt} {t m:Int} (hw:PK w) (h0:0 ≤ t) (h1:t ≤ 15) (g0:0 ≤ m) (g1:m ≤ 15) (h:(m - t) % 16 ≤ 3 ∨ 13 ≤ (m - t) % 16) (hd:dirR w = t):Pos (val (ndot (vec m) w)):=by
 obtain ⟨i,hi,hid,hdr⟩:∃ i,i < 16 ∧ isDir w i = true ∧ dirR w = (i:Int):=by
  unfold dirR at hd ⊢
  cases hf:(List.range 16).find? (isDir w) with
  | none=>rw [hf] at hd; simp at hd; omega
  | some i=>exact ⟨i,List.mem_range.1 (List.mem_of_find?_eq_some hf),List.find?_some hf,rfl⟩
 have hit:(i:Int) = t:=by omega
 unfold isDir at hid
 rw [hit] at hid
 simp only [Bool.and_eq_true,decide_eq_true_eq] at hid
 obtain ⟨hc,hp⟩:=hid
 have hvt:=vec_k t
 have hvm:=vec_k m
 have hpos:Pos (val (ndot (vec t) w)):=pos_of (by rcases nsign_range (ndot (vec t) w) with h | h | h <;> omega)
 have hz:val (pcross (vec t) w) = 0:=by rw [hc]; exact val_zero
 rw [val_pcross hvt hw] at hz
 have a1:=nn_mul (near_plain h0 h1 g0 g1 h) hpos
 have hwk:(0:Int) ≤ wN.k:=by decide
 have ktt:0 ≤ (ndot (vec t) (vec t)).k:=ndot_k hvt hvt
 have kmt:0 ≤ (ndot (vec m) (vec t)).k:=ndot_k hvm hvt
 rw [val_nmul hwk kmt,val_ndot hvm hvt,val_ndot hvt hw] at a1
 rcases nsign_range (ndot (vec m) w) with hs | hs | hs
 ·exfalso
  have b1:=pos_of (x:=nneg (ndot (vec m) w)) (by rw [nsign_neg,hs]; rfl)
  have b2:=nn_mul (sq_plain h0 h1) b1
  rw [val_nmul hwk ktt,val_ndot hvt hvt,val_nneg,val_ndot hvm hw] at b2
  have c:=a1.add b2
  refine c.ne ?_
  grind
 ·exfalso
  rw [nsign_zero,val_ndot hvm hw] at hs
  refine a1.ne ?_
  grind
 ·exact pos_of hs
end Go.Vai
namespace Go.Vai
def Rot (x y:List Pt):Prop:=x.length = y.length ∧ ∃ c,∀ k,k < x.length → nth y k = nth x ((k + c) % x.length)
theorem Rot.refl (x:List Pt):Rot x x:=⟨rfl,0,fun k hk=>by rw [Nat.add_zero,Nat.mod_eq_of_lt hk]⟩
theorem Rot.trans {x y z:List Pt} (h:Rot x y) (h':Rot y z):Rot x z:=by
 obtain ⟨e1,c1,h1⟩:=h
 obtain ⟨e2,c2,h2⟩:=h'
 refine ⟨e1.trans e2,c1 + c2,fun k hk=>?_⟩
 rw [h2 k (by omega),h1 _ (by rw [← e1]; exact Nat.mod_lt _ (by omega)),← e1,Nat.mod_add_mod]
 congr 2; omega
theorem rot_of (l:List Pt) (c:Nat) (hc:c ≤ l.length):Rot l (l.drop c ++ l.take c):=⟨by simp; omega,c,fun k hk=>nth_rot hc hk⟩
theorem cutN_flat (l:Li) (s:Int) (ps:List Pt):∀ n,cutN l s ps n = (List.range n).flatMap fun k=>cutF l s (nth ps k) (nxt ps k)
 | 0=>rfl
 | n + 1=>by rw [List.range_succ,List.flatMap_append,← cutN_flat l s ps n]; simp [cutN]
theorem range_rot {n c:Nat} (hc:c < n):(List.range n).map (fun k=>(k + c) % n) = (List.range n).drop c ++ (List.range n).take c:=by
 apply List.ext_getElem
 ·simp; omega
 ·intro k a b
  simp at a
  rw [List.getElem_map,List.getElem_range,List.getElem_append]
  split
  ·rename_i h
   simp at h
   rw [List.getElem_drop,List.getElem_range,Nat.mod_eq_of_lt (by omega)]; omega
  ·rename_i h
   simp at h
   rw [List.getElem_take,List.getElem_range,Nat.mod_eq_sub_mod (by omega),Nat.mod_eq_of_lt (by omega)]
   simp; omega
theorem Rot.cut {x y:List Pt} (h:Rot x y) (l:Li) (s:Int):Rot (cutN l s x x.length) (cutN l s y y.length):=by
 obtain ⟨e,c0,h0⟩:=h
 by_cases hn:x.length = 0
 ·rw [← e,hn]; exact Rot.refl _
 have hc:c0 % x.length < x.length:=Nat.mod_lt _ (by omega)
 generalize hcc:c0 % x.length = c at hc
 have h1:∀ k,k < x.length → nth y k = nth x ((k + c) % x.length):=by
  intro k hk
  rw [h0 k hk,← hcc,Nat.add_mod_mod]
 have hx:∀ k,k < x.length → nxt y k = nxt x ((k + c) % x.length):=by
  intro k hk
  unfold nxt
  rw [← e,h1 _ (Nat.mod_lt _ (by omega)),Nat.mod_add_mod,Nat.mod_add_mod]
  congr 2; omega
 rw [cutN_flat,cutN_flat,← e]
 have:(List.range x.length).flatMap (fun k=>cutF l s (nth y k) (nxt y k)) = ((List.range x.length).map (fun k=>(k + c) % x.length)).flatMap (fun k=>cutF l s (nth x k) (nxt x k)):=by
  rw [List.flatMap_map]
  unfold List.flatMap
  congr 1
  apply List.map_congr_left
  intro k hk
  have hk':=List.mem_range.1 hk
  rw [h1 k hk',hx k hk']
 rw [this,range_rot hc,List.flatMap_append]
 generalize hA:(List.drop c (List.range x.length)).flatMap (fun k=>cutF l s (nth x k) (nxt x k)) = A
 generalize hB:(List.take c (List.range x.length)).flatMap (fun k=>cutF l s (nth x k) (nxt x k)) = B
 have hfull:(List.range x.length).flatMap (fun k=>cutF l s (nth x k) (nxt x k)) = B ++ A:=by
  rw [← hA,← hB,← List.flatMap_append,List.take_append_drop]
 rw [hfull]
 have:=rot_of (B ++ A) B.length (by simp)
 simpa using this
theorem hasN_any (l:Li) (s:Int) (ps:List Pt):∀ n,hasN l s ps n = true ↔ ∃ k,k < n ∧ 0 < s * sd l (nth ps k)
 | 0=>by simp [hasN]
 | n + 1=>by
  simp only [hasN,Bool.or_eq_true,decide_eq_true_eq,hasN_any l s ps n]
  constructor
  ·rintro (⟨k,h1,h2⟩ | h)
   ·exact ⟨k,by omega,h2⟩
   ·exact ⟨n,by omega,h⟩
  ·rintro ⟨k,h1,h2⟩
   by_cases hk:k < n
   ·exact .inl ⟨k,hk,h2⟩
   ·obtain rfl:k = n:=by omega
    exact .inr h2
theorem Rot.symm {x y:List Pt} (h:Rot x y):Rot y x:=by
 obtain ⟨e,c0,h0⟩:=h
 by_cases hn:x.length = 0
 ·exact ⟨e.symm,0,fun k hk=>by omega⟩
 have hc:c0 % x.length < x.length:=Nat.mod_lt _ (by omega)
 refine ⟨e.symm,x.length - c0 % x.length,fun k hk=>?_⟩
 rw [← e] at hk ⊢
 rw [h0 _ (Nat.mod_lt _ (by omega)),Nat.mod_add_mod]
 have:(k + (x.length - c0 % x.length) + c0) % x.length = k:=by
  have h1:(k + (x.length - c0 % x.length) + c0 % x.length) = k + x.length:=by omega
  have h2:=Nat.add_mod_mod (k + (x.length - c0 % x.length)) c0 x.length
  rw [← h2,h1,Nat.add_mod_right,Nat.mod_eq_of_lt hk]
 rw [this]
end Go.Vai
namespace Go.Vai
def fv (m:Int) (p:Pt):Q2:=val (vec m).x * val p.x + val (vec m).y * val p.y
theorem fv_way {m:Int} {p q:Pt} (hp:PK p) (hq:PK q):fv m q = fv m p + val (ndot (vec m) (pminus q p)):=by
 have hw:PK (pminus q p):=pk_minus hq
 have wx:val (pminus q p).x = val q.x - val p.x:=val_nsub hq.1 hp.1
 have wy:val (pminus q p).y = val q.y - val p.y:=val_nsub hq.2 hp.2
 rw [val_ndot (vec_k m) hw,wx,wy]
 unfold fv; grind
theorem dir_zero {w:Pt} {t m:Int} (hw:PK w) (h0:0 ≤ t) (h1:t ≤ 15) (g0:0 ≤ m) (g1:m ≤ 15) (h:(m - t) % 16 = 12) (hd:dirR w = t):val (ndot (vec m) w) = 0:=by
 obtain ⟨i,hi,hid,hdr⟩:∃ i,i < 16 ∧ isDir w i = true ∧ dirR w = (i:Int):=by
  unfold dirR at hd ⊢
  cases hf:(List.range 16).find? (isDir w) with
  | none=>rw [hf] at hd; simp at hd; omega
  | some i=>exact ⟨i,List.mem_range.1 (List.mem_of_find?_eq_some hf),List.find?_some hf,rfl⟩
 have hit:(i:Int) = t:=by omega
 unfold isDir at hid
 rw [hit] at hid
 simp only [Bool.and_eq_true,decide_eq_true_eq] at hid
 have hvm:=vec_k m
 have e:=dot_turn g0 g1 w
 have et:(m + 4) % 16 = t:=by omega
 rw [et] at e
 have e2:=dot_turn h0 h1 w
 rw [hid.1] at e2
 have em:vec m = ⟨(vec ((t + 4) % 16)).x,(vec ((t + 4) % 16)).y⟩ ∨ vec m = ⟨nneg (vec ((t + 4) % 16)).x,nneg (vec ((t + 4) % 16)).y⟩:=by
  have hm:m = (t + 12) % 16:=by omega
  subst hm
  rcases dir16 h0 h1 with rfl | rfl | rfl | rfl | rfl | rfl | rfl | rfl | rfl | rfl | rfl | rfl | rfl | rfl | rfl | rfl <;> first | exact .inl rfl | exact .inr rfl
 have hv4:=vec_k ((t + 4) % 16)
 have hz:val (ndot (vec ((t + 4) % 16)) w) = 0:=by rw [e2]; exact val_zero
 rw [val_ndot hv4 hw] at hz
 rw [val_ndot hvm hw]
 rcases em with em | em
 ·rw [em]; exact hz
 ·rw [em]; simp only [val_nneg]; grind
def dm (l:List Pt) (k:Nat):Int:=dl l (k % l.length)
def tau (l:List Pt) (k:Nat):Int:=(dm l (k + 1) - dm l k) % 16
def sg (l:List Pt) (j:Nat):Nat → Int
 | 0=>0
 | r + 1=>sg l j r + tau l (j + r)
theorem sg_mono (l:List Pt) (j:Nat):∀ r,0 ≤ sg l j r ∧ sg l j r ≤ sg l j (r + 1)
 | 0=>by simp only [sg,tau]; omega
 | r + 1=>by have:=sg_mono l j r; simp only [sg,tau] at *; omega
theorem dm_sg (l:List Pt) (j:Nat):∀ r,(dm l (j + r) - dm l j - sg l j r) % 16 = 0
 | 0=>by simp [sg]
 | r + 1=>by
  have:=dm_sg l j r
  simp only [sg,tau]
  rw [show j + (r + 1) = j + r + 1 by omega]
  omega
theorem dm_side {l:List Pt} (k:Nat) (hn:0 < l.length):dirR (pminus (pt l (k + 1)) (pt l k)) = dm l k:=by
 unfold dm dl pt nxt
 rw [Nat.mod_add_mod]
theorem chain_pos {l:List Pt} (h:Poly l) (hn:0 < l.length) (j:Nat) (m:Int) (hm:m = (dm l j + 3) % 16) :
  ∀ r,sg l j r ≤ 7 → Pos (fv m (pt l (j + r + 1)) - fv m (pt l j)):=by
 have hpk:∀ k,PK (pt l k):=fun k=>h.pk _ (nth_mem (Nat.mod_lt _ hn))
 have hdm:∀ k,0 ≤ dm l k ∧ dm l k ≤ 15:=fun k=>⟨h.d _ (Nat.mod_lt _ hn),(dl_range l _).2⟩
 intro r
 induction r with
 | zero =>
  intro _
  have h1:=hdm j
  have hw:=dir_pos (w:=pminus (pt l (j + 1)) (pt l j)) (t:=dm l j) (m:=m) (pk_minus (hpk _)) h1.1 h1.2 (by omega) (by omega) (by omega) (dm_side j hn)
  have e:=fv_way (m:=m) (hpk j) (hpk (j + 1))
  have e2:fv m (pt l (j + 0 + 1)) - fv m (pt l j) = val (ndot (vec m) (pminus (pt l (j + 1)) (pt l j))):=by
   show fv m (pt l (j + 1)) - fv m (pt l j) = _
   rw [e]; grind
  rw [e2]; exact hw
 | succ r ih =>
  intro hs
  have hmo:=sg_mono l j r
  have hmo2:=sg_mono l j (r + 1)
  have ihp:=ih (by omega)
  have h1:=hdm (j + (r + 1))
  have hg:=dm_sg l j (r + 1)
  have hj:=hdm j
  have e:=fv_way (m:=m) (hpk (j + r + 1)) (hpk (j + (r + 1) + 1))
  have hside:dirR (pminus (pt l (j + (r + 1) + 1)) (pt l (j + r + 1))) = dm l (j + (r + 1)):=dm_side (j + (r + 1)) hn
  by_cases h7:sg l j (r + 1) = 7
  ·have hz:=dir_zero (w:=pminus (pt l (j + (r + 1) + 1)) (pt l (j + r + 1))) (t:=dm l (j + (r + 1))) (m:=m) (pk_minus (hpk _)) h1.1 h1.2 (by omega) (by omega) (by omega) hside
   rw [hz] at e
   have e2:fv m (pt l (j + (r + 1) + 1)) - fv m (pt l j) = fv m (pt l (j + r + 1)) - fv m (pt l j):=by rw [e]; grind
   rw [e2]; exact ihp
  ·have hw:=dir_pos (w:=pminus (pt l (j + (r + 1) + 1)) (pt l (j + r + 1))) (t:=dm l (j + (r + 1))) (m:=m) (pk_minus (hpk _)) h1.1 h1.2 (by omega) (by omega) (by omega) hside
   have e2:fv m (pt l (j + (r + 1) + 1)) - fv m (pt l j) = (fv m (pt l (j + r + 1)) - fv m (pt l j)) + val (ndot (vec m) (pminus (pt l (j + (r + 1) + 1)) (pt l (j + r + 1)))):=by rw [e]; grind
   rw [e2]; exact ihp.add hw
theorem chain_apart {l:List Pt} (h:Poly l) (hn:0 < l.length) (j r:Nat) (hs:sg l j r ≤ 7):pt l (j + r + 1) ≠ pt l j:=by
 intro he
 have:=(chain_pos h hn j _ rfl r hs).ne
 rw [he] at this
 exact this (by grind)
end Go.Vai
namespace Go.Vai
theorem vN_low {x:Nu} (h:vN x = true):low x = x:=by
 simp only [vN,Bool.and_eq_true,Bool.or_eq_true,decide_eq_true_eq,inB_iff] at h
 obtain ⟨-,-,h3,h4⟩:=h
 exact low_end (by omega) (by omega)
theorem vN_k {x:Nu} (h:vN x = true):0 ≤ x.k:=(vN_bound h).k0
theorem ncmp_zero {x y:Nu} (hx:0 ≤ x.k) (hy:0 ≤ y.k):ncmp x y = 0 ↔ val x = val y:=by
 unfold ncmp
 rw [nsign_zero,val_nsub hx hy]
 constructor
 ·intro h; grind
 ·intro h; rw [h]; grind
theorem ncmp_pos {x y:Nu} (hx:0 ≤ x.k) (hy:0 ≤ y.k) (h:ncmp x y = 1):Pos (val x - val y):=by
 have:=pos_of h
 rwa [val_nsub hx hy] at this
theorem ncmp_neg {x y:Nu} (hx:0 ≤ x.k) (hy:0 ≤ y.k) (h:ncmp x y = -1):Pos (val y - val x):=by
 have:=pos_of (x:=nneg (nsub x y)) (by rw [nsign_neg]; unfold ncmp at h; rw [h]; rfl)
 rw [val_nneg,val_nsub hx hy] at this
 have e:val y - val x = -(val x - val y):=by grind
 rw [e]; exact this
theorem Pos.anti {x:Q2} (h:Pos x) (h':Pos (-x)):False:=(h.add h').ne (by grind)
theorem ncmp_anti {x y:Nu} (hx:0 ≤ x.k) (hy:0 ≤ y.k):ncmp y x = -ncmp x y:=by
 have r1:=nsign_range (nsub x y)
 have r2:=nsign_range (nsub y x)
 have r1':ncmp x y = -1 ∨ ncmp x y = 0 ∨ ncmp x y = 1:=r1
 have r2':ncmp y x = -1 ∨ ncmp y x = 0 ∨ ncmp y x = 1:=r2
 have z:ncmp x y = 0 ↔ ncmp y x = 0:=by
  rw [ncmp_zero hx hy,ncmp_zero hy hx]; exact eq_comm
 have nn:¬ (ncmp x y = 1 ∧ ncmp y x = 1):=fun ⟨a,b⟩=>by
  have p:=ncmp_pos hx hy a
  have q:=ncmp_pos hy hx b
  exact p.anti (by rwa [show -(val x - val y) = val y - val x by grind])
 have mm:¬ (ncmp x y = -1 ∧ ncmp y x = -1):=fun ⟨a,b⟩=>by
  have p:=ncmp_neg hx hy a
  have q:=ncmp_neg hy hx b
  exact p.anti (by rwa [show -(val y - val x) = val x - val y by grind])
 rcases r1' with h | h | h <;> rcases r2' with g | g | g <;> simp only [h,g] at * <;> first | rfl | (exfalso; simp at z; done) | simp_all
theorem pcmp_anti {p q:Pt} (hp:PK p) (hq:PK q):pcmp q p = -pcmp p q:=by
 unfold pcmp
 rw [ncmp_anti hp.1 hq.1,ncmp_anti hp.2 hq.2]
 split <;> split <;> omega
theorem pcmp_self (p:Pt) (hp:PK p):pcmp p p = 0:=by
 have:=pcmp_anti hp hp
 omega
theorem pcmp_eq {p q:Pt} (hp:vP p = true) (hq:vP q = true) (h:pcmp p q = 0):p = q:=by
 simp only [vP,Bool.and_eq_true] at hp hq
 unfold pcmp at h
 split at h
 ·rename_i h1
  have e1:=(nsub_zero (vN_k hp.1) (vN_k hq.1) (vN_low hp.1) (vN_low hq.1)).1 h1
  have e2:=(nsub_zero (vN_k hp.2) (vN_k hq.2) (vN_low hp.2) (vN_low hq.2)).1 h
  cases p; cases q; simp_all
 ·contradiction
theorem leastF_zero {l:List Pt}:∀ {k:Nat},(∀ j,j < k → ¬ pcmp (nth l j) (nth l 0) < 0) → leastF l k = 0
 | 0,_=>rfl
 | k + 1,h=>by
  have ih:=leastF_zero (k:=k) fun j hj=>h j (by omega)
  unfold leastF
  rw [ih,if_neg (h k (by omega))]
theorem leastF_stays {l:List Pt} (h0:¬ pcmp (nth l 0) (nth l 0) < 0):∀ {k:Nat},leastF l k = 0 → ∀ j,j < k → ¬ pcmp (nth l j) (nth l 0) < 0
 | 0,_=>fun j hj=>by omega
 | k + 1,h=>by
  unfold leastF at h
  split at h
  ·rename_i hc
   subst h
   intro j hj
   obtain rfl:j = 0:=by omega
   exact h0
  ·rename_i hc
   intro j hj
   rcases Nat.lt_succ_iff_lt_or_eq.1 hj with hj' | rfl
   ·exact leastF_stays h0 h j hj'
   ·rw [h] at hc; exact hc
theorem least_zero {l:List Pt} (hl:0 < l.length) (hp:∀ p ∈ l,PK p):least l = 0 ↔ ∀ j,j < l.length → ¬ pcmp (nth l j) (nth l 0) < 0 :=
 ⟨leastF_stays (by rw [pcmp_self _ (hp _ (nth_mem hl))]; omega),leastF_zero⟩
theorem dm_add (l:List Pt) (k:Nat):dm l (k + l.length) = dm l k:=by unfold dm; rw [Nat.add_mod_right]
theorem tau_add (l:List Pt) (k:Nat):tau l (k + l.length) = tau l k:=by
 unfold tau
 rw [show k + l.length + 1 = k + 1 + l.length by omega,dm_add,dm_add]
theorem sg_split (l:List Pt) (j r:Nat):∀ s,sg l j (r + s) = sg l j r + sg l (j + r) s
 | 0=>by simp [sg]
 | s + 1=>by
  have:=sg_split l j r s
  rw [← Nat.add_assoc]
  simp only [sg]
  rw [this,Nat.add_assoc]; omega
theorem sg_turn (l:List Pt) (j:Nat):∀ r,sg l (j + l.length) r = sg l j r
 | 0=>rfl
 | r + 1=>by
  simp only [sg]
  rw [sg_turn l j r,show j + l.length + r = j + r + l.length by omega,tau_add]
theorem tau_turnS {l:List Pt} {k:Nat} (hk:k < l.length):tau l k = turnS l k:=by
 unfold tau turnS dm
 rw [Nat.mod_eq_of_lt hk]
theorem sumT_sg (l:List Pt):∀ k,k ≤ l.length → sumT l k = sg l 0 k
 | 0,_=>rfl
 | k + 1,h=>by
  simp only [sumT,sg]
  rw [sumT_sg l k (by omega),Nat.zero_add,tau_turnS (by omega)]
theorem bef_dm {l:List Pt} {k:Nat} (hk:k < l.length):bef l k = dm l (k + (l.length - 1)):=by
 unfold bef dm
 split
 ·rename_i h0
  subst h0
  rw [Nat.zero_add,Nat.mod_eq_of_lt (show l.length - 1 < l.length by omega)]
  unfold dl nxt
  rw [show (l.length - 1 + 1) % l.length = 0 by rw [Nat.sub_add_cancel (by omega)]; exact Nat.mod_self _]
 ·rename_i h0
  rw [show k + (l.length - 1) = (k - 1) + l.length by omega,Nat.add_mod_right,Nat.mod_eq_of_lt (by omega)]
theorem turn_tau {l:List Pt} {k:Nat} (hk:k < l.length):(dl l k - bef l k) % 16 = tau l (k + (l.length - 1)):=by
 unfold tau
 rw [bef_dm hk,show k + (l.length - 1) + 1 = k + l.length by omega,dm_add]
 unfold dm
 rw [Nat.mod_eq_of_lt hk]
theorem sumI_sg (l:List Pt):∀ k,k ≤ l.length → sumI l k = sg l (l.length - 1) k
 | 0,_=>rfl
 | k + 1,h=>by
  simp only [sumI,sg]
  rw [sumI_sg l k (by omega),turn_tau (by omega),Nat.add_comm k]
theorem sum_eq (l:List Pt) (h:0 < l.length):sumI l l.length = sumT l l.length:=by
 rw [sumI_sg l _ (Nat.le_refl _),sumT_sg l _ (Nat.le_refl _)]
 have e:=sg_split l (l.length - 1) 1 (l.length - 1)
 rw [show 1 + (l.length - 1) = l.length by omega] at e
 rw [e,show l.length - 1 + 1 = 0 + l.length by omega,sg_turn]
 have e2:sg l 0 l.length = sg l 0 (l.length - 1) + tau l (0 + (l.length - 1)):=by
  have:l.length = (l.length - 1) + 1:=by omega
  conv=>lhs; rw [this]
  rfl
 rw [e2]
 simp only [sg,Nat.add_zero,Nat.zero_add]
 omega
theorem once {l:List Pt} (h:Poly l) (hn:0 < l.length) (h1:∀ k,1 ≤ tau l k) (hs:sg l 0 l.length = 16) {i:Nat} (h0:0 < i) (hi:i < l.length):nth l i ≠ nth l 0:=by
 intro he
 have a1:¬ sg l 0 (i - 1) ≤ 7:=fun hle=>by
  have:=chain_apart h hn 0 (i - 1) hle
  rw [show 0 + (i - 1) + 1 = i by omega,pt_lt hi,pt_lt hn] at this
  exact this he
 have a2:¬ sg l i (l.length - i - 1) ≤ 7:=fun hle=>by
  have:=chain_apart h hn i (l.length - i - 1) hle
  rw [show i + (l.length - i - 1) + 1 = l.length by omega,pt_lt hi] at this
  refine this ?_
  unfold pt
  rw [Nat.mod_self]; exact he.symm
 have e1:=sg_split l 0 i (l.length - i)
 rw [show i + (l.length - i) = l.length by omega,Nat.zero_add] at e1
 have e2:=sg_split l 0 (i - 1) 1
 rw [show i - 1 + 1 = i by omega] at e2
 have e3:=sg_split l i (l.length - i - 1) 1
 rw [show l.length - i - 1 + 1 = l.length - i by omega] at e3
 have b1:=h1 (0 + (i - 1) + 0)
 have b2:=h1 (i + (l.length - i - 1) + 0)
 simp only [sg] at e2 e3
 omega
theorem pol_eq (l:List Pt):polI l = polS l:=by
 rw [Bool.eq_iff_iff]
 unfold polI polS convI ptsS sidesOk turnsS
 simp only [Bool.and_eq_true,decide_eq_true_eq,List.all_eq_true,List.mem_range]
 constructor
 ·rintro ⟨⟨⟨hin,hv⟩,⟨hc3,hok⟩,hsum⟩,hle⟩
  have hn:0 < l.length:=by omega
  have hvk:∀ k,k < l.length → vP (nth l k) = true:=fun k hk=>hv _ (nth_mem hk)
  have hside:∀ k,k < l.length → 0 ≤ dl l k:=fun k hk=>by
   have:=hok k hk
   simp only [okI,Bool.and_eq_true,decide_eq_true_eq] at this
   exact this.1.1
  have hpoly:Poly l:=⟨fun p hp=>vP_bound (hv p hp),hside⟩
  have htau:∀ k,inB (tau l k) 1 7 = true:=fun k=>by
   have hm:(k + 1) % l.length < l.length:=Nat.mod_lt _ hn
   have:=hok _ hm
   simp only [okI,Bool.and_eq_true,decide_eq_true_eq] at this
   have e:=turn_tau hm
   rw [e] at this
   have e2:tau l ((k + 1) % l.length + (l.length - 1)) = tau l k:=by
    unfold tau dm
    rw [show (k + 1) % l.length + (l.length - 1) + 1 = (k + 1) % l.length + l.length by omega,Nat.add_mod_right,Nat.mod_mod,Nat.mod_add_mod,
     show k + 1 + (l.length - 1) = k + l.length by omega,Nat.add_mod_right]
   rw [e2] at this
   exact this.2
  have hs16:sumT l l.length = 16:=by rw [← sum_eq l hn]; exact hsum
  have hlz:=(least_zero hn hpoly.pk).1 hle
  refine ⟨⟨⟨⟨hin,fun j hj=>?_⟩,hside⟩,fun k hk=>?_⟩,hs16⟩
  ·simp only [okP,Bool.and_eq_true,Bool.or_eq_true,decide_eq_true_eq]
   refine ⟨hvk j hj, ?_⟩
   by_cases h0:j = 0
   ·exact .inl h0
   ·refine .inr ?_
    have c:=hlz j hj
    have hne:=once hpoly hn (fun k=>((inB_iff ..).1 (htau k)).1) (by rw [← sumT_sg l _ (Nat.le_refl _)]; exact hs16) (i:=j) (by omega) hj
    have ha:=pcmp_anti (hpoly.pk _ (nth_mem hj)) (hpoly.pk _ (nth_mem hn))
    have hz:pcmp (nth l j) (nth l 0) ≠ 0:=fun hz=>hne (pcmp_eq (hvk j hj) (hvk 0 hn) hz)
    omega
  ·rw [← tau_turnS hk]; exact htau k
 ·rintro ⟨⟨⟨⟨hin,hpts⟩,hside⟩,hturn⟩,hsum⟩
  have hin':=(inB_iff ..).1 hin
  have hn:0 < l.length:=by omega
  have hv:∀ p ∈ l,vP p = true:=fun p hp=>by
   obtain ⟨j,hj,rfl⟩:=List.getElem_of_mem hp
   have:=hpts j hj
   simp only [okP,Bool.and_eq_true] at this
   rw [nth_eq hj] at this
   exact this.1
  have hpoly:Poly l:=⟨fun p hp=>vP_bound (hv p hp),hside⟩
  refine ⟨⟨⟨hin,hv⟩,⟨by omega,fun k hk=>?_⟩,by rw [sum_eq l hn]; exact hsum⟩,(least_zero hn hpoly.pk).2 fun j hj=>?_⟩
  ·simp only [okI,Bool.and_eq_true,decide_eq_true_eq]
   refine ⟨⟨hside k hk, ?_⟩, ?_⟩
   ·rw [bef_dm hk]; exact hside _ (Nat.mod_lt _ hn)
   ·rw [turn_tau hk]
    have hm:(k + (l.length - 1)) % l.length < l.length:=Nat.mod_lt _ hn
    have e:tau l (k + (l.length - 1)) = tau l ((k + (l.length - 1)) % l.length):=by
     unfold tau dm
     rw [Nat.mod_mod,Nat.mod_add_mod]
    rw [e,tau_turnS hm]
    exact hturn _ hm
  ·have:=hpts j hj
   simp only [okP,Bool.and_eq_true,Bool.or_eq_true,decide_eq_true_eq] at this
   rcases this.2 with h0 | h0
   ·subst h0; rw [pcmp_self _ (hpoly.pk _ (nth_mem hn))]; omega
   ·rw [pcmp_anti (hpoly.pk _ (nth_mem hn)) (hpoly.pk _ (nth_mem hj))]; omega
end Go.Vai
