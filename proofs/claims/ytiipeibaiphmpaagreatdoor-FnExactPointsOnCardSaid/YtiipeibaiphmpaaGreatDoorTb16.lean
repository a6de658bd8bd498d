/- Texts of this claim: Zp12, Zh1, Zh2, Zh3, Zh4, Zh5. -/
import Derived.Test.YtiipeibaiphmpaaGreatDoorTb72
import Derived.Test.YtiipeibaiphmpaaGreatDoorTb21
set_option linter.unusedVariables false
set_option linter.unusedSimpArgs false
set_option maxHeartbeats 4000000
namespace Go.Vai
theorem polI_poly {l:List Pt} (h:polI l = true):Poly l ∧ 3 ≤ l.length ∧ l.length ≤ 16 ∧ ∀ p ∈ l,vP p = true:=by
 unfold polI convI at h
 simp only [Bool.and_eq_true,decide_eq_true_eq,List.all_eq_true,List.mem_range] at h
 obtain ⟨⟨⟨hin,hv⟩,⟨hc3,hok⟩,hsum⟩,hle⟩:=h
 have hin:=(inB_iff ..).1 hin
 refine ⟨⟨fun p hp=>vP_bound (hv p hp),fun k hk=>?_⟩,by omega,by omega,hv⟩
 have:=hok k hk
 simp only [okI,Bool.and_eq_true,decide_eq_true_eq] at this
 exact this.1.1
end Go.Vai
namespace Go.Vai
def SgnP (s:Int) (x:Q2):Prop:=(s = 1 ∧ Pos x) ∨ (s = 0 ∧ x = 0) ∨ (s = -1 ∧ Pos (-x))
theorem sgnP_nsign (x:Nu):SgnP (nsign x) (val x):=by
 rcases nsign_range x with h | h | h
 ·refine .inr (.inr ⟨h, ?_⟩)
  have:=pos_of (x:=nneg x) (by rw [nsign_neg,h]; rfl)
  rwa [val_nneg] at this
 ·exact .inr (.inl ⟨h,nsign_zero.1 h⟩)
 ·exact .inl ⟨h,pos_of h⟩
def LeQ (x y:Q2):Prop:=y = x ∨ Pos (y - x)
theorem LeQ.refl (x:Q2):LeQ x x:=.inl rfl
theorem LeQ.trans {x y z:Q2} (h:LeQ x y) (h':LeQ y z):LeQ x z:=by
 rcases h with rfl | h
 ·exact h'
 ·rcases h' with rfl | h'
  ·exact .inr h
  ·refine .inr ?_
   have:=h.add h'
   rwa [show y - x + (z - y) = z - x by grind] at this
theorem SgnP.cases {s:Int} {x:Q2} (h:SgnP s x):s = 1 ∨ s = 0 ∨ s = -1:=by
 rcases h with h | h | h
 ·exact .inl h.1
 ·exact .inr (.inl h.1)
 ·exact .inr (.inr h.1)
theorem SgnP.pos {x:Q2} {s:Int} (h:SgnP s x):s = 1 ↔ Pos x:=by
 constructor
 ·intro e; subst e
  rcases h with h | h | h
  ·exact h.2
  ·exact absurd h.1 (by decide)
  ·exact absurd h.1 (by decide)
 ·intro p
  rcases h with h | h | h
  ·exact h.1
  ·exact absurd h.2 p.ne
  ·exact (p.anti h.2).elim
theorem SgnP.neg {x:Q2} {s:Int} (h:SgnP s x):s = -1 ↔ Pos (-x):=by
 constructor
 ·intro e; subst e
  rcases h with h | h | h
  ·exact absurd h.1 (by decide)
  ·exact absurd h.1 (by decide)
  ·exact h.2
 ·intro p
  rcases h with h | h | h
  ·exact (h.2.anti p).elim
  ·exact absurd (show -x = 0 by rw [h.2]; grind) p.ne
  ·exact h.1
theorem SgnP.lt {x y:Q2} {a b:Int} (ha:SgnP a x) (hb:SgnP b y) (h:Pos (y - x)):a ≤ b ∧ (a = 0 → b = 1) ∧ (b = 0 → a = -1):=by
 have k1:Pos x → Pos y:=fun p=>by have:=p.add h; rwa [show x + (y - x) = y by grind] at this
 have k2:x = 0 → Pos y:=fun e=>by rwa [e,show y - 0 = y by grind] at h
 have k3:y = 0 → Pos (-x):=fun e=>by rwa [e,show 0 - x = -x by grind] at h
 rcases ha with ⟨rfl,pa⟩ | ⟨rfl,pa⟩ | ⟨rfl,pa⟩
 ·have:=hb.pos.2 (k1 pa); omega
 ·have:=hb.pos.2 (k2 pa); omega
 ·rcases hb.cases with e | e | e <;> omega
theorem SgnP.eq {x y:Q2} {a b:Int} (ha:SgnP a x) (hb:SgnP b y) (h:y = x):a = b:=by
 subst h
 rcases ha.cases with e | e | e
 ·rw [e]; exact (hb.pos.2 (ha.pos.1 e)).symm
 ·rcases hb.cases with g | g | g
  ·have:=ha.pos.2 (hb.pos.1 g); omega
  ·omega
  ·have:=ha.neg.2 (hb.neg.1 g); omega
 ·rw [e]; exact (hb.neg.2 (ha.neg.1 e)).symm
theorem SgnP.le {x y:Q2} {a b:Int} (ha:SgnP a x) (hb:SgnP b y) (h:LeQ x y):a ≤ b:=by
 rcases h with h | h
 ·exact Int.le_of_eq (ha.eq hb h)
 ·exact (ha.lt hb h).1
def eN (s t:Int):Nat:=(if s = 0 then 1 else 0) + (if s * t < 0 then 1 else 0)
def cN (s:Nat → Int):Nat → Nat
 | 0=>0
 | k + 1=>cN s k + eN (s k) (s (k + 1))
structure Uni (n u:Nat) (G:Nat → Q2):Prop where
 hu:u < n
 up:∀ i,i < u → Pos (G (i + 1) - G i)
 top:LeQ (G (u + 1)) (G u)
 down:∀ i,u < i → i + 1 < n → Pos (G i - G (i + 1))
 bot:LeQ (G n) (G (n - 1))
 per:G n = G 0
theorem Uni.rise {n u:Nat} {G:Nat → Q2} (h:Uni n u G) (i:Nat):∀ j,i ≤ j → j ≤ u → LeQ (G i) (G j):=by
 intro j
 induction j with
 | zero =>
  intro h1 _; obtain rfl:i = 0:=by omega
  exact LeQ.refl _
 | succ j ih =>
  intro h1 h2
  by_cases e:i = j + 1
  ·subst e; exact LeQ.refl _
  ·exact (ih (by omega) (by omega)).trans (.inr (h.up j (by omega)))
theorem Uni.fallStep {n u:Nat} {G:Nat → Q2} (h:Uni n u G) {i:Nat} (h1:u ≤ i) (h2:i < n):LeQ (G (i + 1)) (G i):=by
 by_cases e:i = u
 ·subst e; exact h.top
 ·by_cases e2:i + 1 < n
  ·exact .inr (h.down i (by omega) e2)
  ·have e3:i + 1 = n:=by omega
   have e4:n - 1 = i:=by omega
   have:=h.bot
   rwa [e4,← e3] at this
theorem Uni.fall {n u:Nat} {G:Nat → Q2} (h:Uni n u G) (i:Nat) (h0:u ≤ i):∀ j,i ≤ j → j ≤ n → LeQ (G j) (G i):=by
 intro j
 induction j with
 | zero =>
  intro h1 _; obtain rfl:i = 0:=by omega
  exact LeQ.refl _
 | succ j ih =>
  intro h1 h2
  by_cases e:i = j + 1
  ·subst e; exact LeQ.refl _
  ·exact (h.fallStep (by omega) (by omega)).trans (ih (by omega) (by omega))
theorem Uni.least {n u:Nat} {G:Nat → Q2} (h:Uni n u G) {i:Nat} (hi:i ≤ n):LeQ (G 0) (G i):=by
 by_cases e:i ≤ u
 ·exact h.rise 0 i (by omega) e
 ·have:=h.fall i (by omega) n hi (Nat.le_refl _)
  rwa [h.per] at this
theorem Uni.most {n u:Nat} {G:Nat → Q2} (h:Uni n u G) {i:Nat} (hi:i ≤ n):LeQ (G i) (G u):=by
 by_cases e:i ≤ u
 ·exact h.rise i u e (Nat.le_refl _)
 ·exact h.fall u (Nat.le_refl _) i (by omega) hi
theorem Uni.two {n u:Nat} {G:Nat → Q2} (h:Uni n u G) {s:Nat → Int} (hs:∀ i,SgnP (s i) (G i)) (hp:∃ i,i < n ∧ s i = 1) (hm:∃ i,i < n ∧ s i = -1):cN s n = 2:=by
 obtain ⟨a,ha,ea⟩:=hp
 obtain ⟨b,hb,eb⟩:=hm
 have s0:s 0 = -1:=by
  have:=(hs 0).le (hs b) (h.least (by omega))
  rcases (hs 0).cases with e | e | e <;> omega
 have sn:s n = -1:=by rw [← s0]; exact (hs n).eq (hs 0) h.per.symm
 have su:s u = 1:=by
  have:=(hs a).le (hs u) (h.most (by omega))
  rcases (hs u).cases with e | e | e <;> omega
 have U:∀ i,i ≤ u → cN s i = if s i = 1 then 1 else 0:=by
  intro i
  induction i with
  | zero=>intro _; simp [cN,s0]
  | succ i ih =>
   intro hi
   have hl:=(hs i).lt (hs (i + 1)) (h.up i (by omega))
   simp only [cN,ih (by omega),eN]
   rcases (hs i).cases with e | e | e <;> rcases (hs (i + 1)).cases with g | g | g <;> (first | (exfalso; omega) | (simp only [e,g]; decide))
 have cu:cN s u = 1:=by rw [U u (Nat.le_refl _),su]; rfl
 have D:∀ i,u < i → i < n → cN s i = if s i = -1 then 2 else 1:=by
  intro i
  induction i with
  | zero=>intro h1; omega
  | succ i ih =>
   intro h1 h2
   by_cases e:i = u
   ·subst e
    simp only [cN,cu,eN,su]
    rcases (hs (i + 1)).cases with g | g | g <;> rw [g] <;> decide
   ·have hl:=(hs (i + 1)).lt (hs i) (h.down i (by omega) h2)
    simp only [cN,ih (by omega) (by omega),eN]
    rcases (hs i).cases with e | e | e <;> rcases (hs (i + 1)).cases with g | g | g <;> (first | (exfalso; omega) | (simp only [e,g]; decide))
 have hn:n = (n - 1) + 1:=by have:=h.hu; omega
 have hu:=h.hu
 rw [hn]
 simp only [cN]
 rw [← hn,sn]
 by_cases e:n - 1 = u
 ·rw [e,cu,su]; decide
 ·rw [D (n - 1) (by omega) (by omega)]
  have hl:=(hs n).le (hs (n - 1)) h.bot
  rcases h.bot with hb2 | hb2
  ·have:=(hs n).eq (hs (n - 1)) hb2
   rw [← this,sn]; decide
  ·have:=(hs n).lt (hs (n - 1)) hb2
   rcases (hs (n - 1)).cases with g | g | g <;> rw [g] <;> decide
end Go.Vai
namespace Go.Vai
theorem fv_half {m:Int} (h0:0 ≤ m) (h1:m ≤ 15) (p:Pt):fv ((m + 8) % 16) p = -fv m p:=by
 have hx:val (vec ((m + 8) % 16)).x = -val (vec m).x ∧ val (vec ((m + 8) % 16)).y = -val (vec m).y:=by
  rw [← val_nneg,← val_nneg]
  rcases dir16 h0 h1 with rfl | rfl | rfl | rfl | rfl | rfl | rfl | rfl | rfl | rfl | rfl | rfl | rfl | rfl | rfl | rfl <;> exact ⟨rfl,rfl⟩
 unfold fv
 rw [hx.1,hx.2]; grind
theorem side_up {l:List Pt} (h:Poly l) (hn:0 < l.length) {m:Int} (h0:0 ≤ m) (h1:m ≤ 15) (k:Nat) (hr:(m - dm l k) % 16 ≤ 3 ∨ 13 ≤ (m - dm l k) % 16):Pos (fv m (pt l (k + 1)) - fv m (pt l k)):=by
 have hpk:∀ k,PK (pt l k):=fun k=>h.pk _ (nth_mem (Nat.mod_lt _ hn))
 have hd:0 ≤ dm l k ∧ dm l k ≤ 15:=⟨h.d _ (Nat.mod_lt _ hn),(dl_range l _).2⟩
 have hw:=dir_pos (w:=pminus (pt l (k + 1)) (pt l k)) (t:=dm l k) (m:=m) (pk_minus (hpk _)) hd.1 hd.2 h0 h1 hr (dm_side k hn)
 have e:=fv_way (m:=m) (hpk k) (hpk (k + 1))
 rw [e]
 rwa [show fv m (pt l k) + val (ndot (vec m) (pminus (pt l (k + 1)) (pt l k))) - fv m (pt l k) = val (ndot (vec m) (pminus (pt l (k + 1)) (pt l k))) by grind]
theorem side_down {l:List Pt} (h:Poly l) (hn:0 < l.length) {m:Int} (h0:0 ≤ m) (h1:m ≤ 15) (k:Nat) (hr:5 ≤ (m - dm l k) % 16 ∧ (m - dm l k) % 16 ≤ 11):Pos (fv m (pt l k) - fv m (pt l (k + 1))):=by
 have:=side_up h hn (m:=(m + 8) % 16) (by omega) (by omega) k (by omega)
 rw [fv_half h0 h1,fv_half h0 h1] at this
 rwa [show -fv m (pt l (k + 1)) - -fv m (pt l k) = fv m (pt l k) - fv m (pt l (k + 1)) by grind] at this
theorem side_flat {l:List Pt} (h:Poly l) (hn:0 < l.length) {m:Int} (h0:0 ≤ m) (h1:m ≤ 15) (k:Nat) (hr:(m - dm l k) % 16 = 4 ∨ (m - dm l k) % 16 = 12):fv m (pt l (k + 1)) = fv m (pt l k):=by
 have hpk:∀ k,PK (pt l k):=fun k=>h.pk _ (nth_mem (Nat.mod_lt _ hn))
 have hd:0 ≤ dm l k ∧ dm l k ≤ 15:=⟨h.d _ (Nat.mod_lt _ hn),(dl_range l _).2⟩
 have key:∀ m:Int,0 ≤ m → m ≤ 15 → (m - dm l k) % 16 = 12 → fv m (pt l (k + 1)) = fv m (pt l k):=by
  intro m h0 h1 hr
  have hz:=dir_zero (w:=pminus (pt l (k + 1)) (pt l k)) (t:=dm l k) (m:=m) (pk_minus (hpk _)) hd.1 hd.2 h0 h1 hr (dm_side k hn)
  rw [fv_way (m:=m) (hpk k) (hpk (k + 1)),hz]; grind
 rcases hr with hr | hr
 ·have:=key ((m + 8) % 16) (by omega) (by omega) (by omega)
  rw [fv_half h0 h1,fv_half h0 h1] at this
  grind
 ·exact key m h0 h1 hr
structure Conv (l:List Pt):Prop extends Poly l where
 n:0 < l.length
 t:∀ k,1 ≤ tau l k ∧ tau l k ≤ 7
 s:sg l 0 l.length = 16
theorem Conv.full {l:List Pt} (h:Conv l):∀ j,sg l j l.length = 16
 | 0=>h.s
 | j + 1=>by
  have ih:=h.full j
  have e1:=sg_split l j 1 l.length
  have e2:sg l j (1 + l.length) = sg l j l.length + tau l (j + l.length):=by rw [Nat.add_comm]; rfl
  have e3:sg l j 1 = tau l j:=by simp [sg]
  rw [tau_add] at e2
  omega
theorem sg_le (l:List Pt) (j:Nat) (a:Nat):∀ b,a ≤ b → sg l j a ≤ sg l j b:=by
 intro b
 induction b with
 | zero =>
  intro h; obtain rfl:a = 0:=by omega
  exact Int.le_refl _
 | succ b ih =>
  intro h
  by_cases e:a = b + 1
  ·subst e; exact Int.le_refl _
  ·have:=ih (by omega)
   have:=(sg_mono l j b).2
   omega
theorem first_not {p:Nat → Bool} {n:Nat} (h:∃ j,j < n ∧ p j = false):∃ j,j < n ∧ p j = false ∧ ∀ i,i < j → p i = true:=by
 obtain ⟨j,h1,h2,h3⟩:=least_not n h
 exact ⟨j,h1,h2,h3⟩
theorem Conv.uni {l:List Pt} (h:Conv l) {m:Int} (h0:0 ≤ m) (h1:m ≤ 15) (c:Q2):∃ j0 u,Uni l.length u fun i=>fv m (pt l (j0 + i)) - c:=by
 have hn:=h.n
 have hd:∀ k,0 ≤ dm l k ∧ dm l k ≤ 15:=fun k=>⟨h.d _ (Nat.mod_lt _ hn),(dl_range l _).2⟩
 obtain ⟨j0,t0,q1,q2,q3,q4⟩:∃ (j0:Nat) (t0:Int),-3 ≤ t0 ∧ t0 ≤ 3 ∧ (dm l j0 - m - t0) % 16 = 0 ∧ t0 + sg l j0 (l.length - 1) ≤ 12:=by
  obtain ⟨A,hA⟩:∃ A:Int,A = (dm l 0 - m) % 16:=⟨_,rfl⟩
  obtain ⟨thr,ht⟩:∃ thr:Int,(thr = 13 ∧ A ≤ 12) ∨ (thr = 29 ∧ 13 ≤ A):=by
   by_cases hh:A ≤ 12
   ·exact ⟨13,.inl ⟨rfl,hh⟩⟩
   ·exact ⟨29,.inr ⟨rfl,by omega⟩⟩
  obtain ⟨j,hj,hj1,hj2⟩:=first_not (p:=fun i=>decide (A + sg l 0 i < thr)) (n:=l.length + 1) ⟨l.length,by omega,by have:=h.s; simp; omega⟩
  simp only [decide_eq_false_iff_not,decide_eq_true_eq] at hj1 hj2
  have hjp:0 < j:=by
   rcases Nat.eq_zero_or_pos j with e | e
   ·subst e; simp [sg] at hj1; omega
   ·exact e
  have hb:=hj2 (j - 1) (by omega)
  have e1:=sg_split l 0 (j - 1) 1
  rw [show j - 1 + 1 = j by omega] at e1
  have e3:sg l (0 + (j - 1)) 1 = tau l (j - 1):=by simp [sg]
  have ht7:=h.t (j - 1)
  have hg:=dm_sg l 0 j
  rw [Nat.zero_add] at hg
  have hf:=h.full j
  have e4:sg l j l.length = sg l j (l.length - 1) + tau l (j + (l.length - 1)):=by
   conv=>lhs; rw [show l.length = (l.length - 1) + 1 by omega]
   rfl
  have e5:tau l (j + (l.length - 1)) = tau l (j - 1):=by
   rw [show j + (l.length - 1) = (j - 1) + l.length by omega,tau_add]
  refine ⟨j,A + sg l 0 j - (thr + 3), ?_, ?_, ?_, ?_⟩ <;> omega
 have hth:∀ i,(dm l (j0 + i) - m - (t0 + sg l j0 i)) % 16 = 0:=fun i=>by have:=dm_sg l j0 i; omega
 have hlast:sg l j0 (l.length - 1) + tau l (j0 + (l.length - 1)) = 16:=by
  have:=h.full j0
  conv at this=>lhs; rw [show l.length = (l.length - 1) + 1 by omega]
  exact this
 have ht7:=h.t (j0 + (l.length - 1))
 obtain ⟨u,hu,hu1,hu2⟩:=first_not (p:=fun i=>decide (t0 + sg l j0 i ≤ 3)) (n:=l.length) ⟨l.length - 1,by omega,by simp; omega⟩
 simp only [decide_eq_false_iff_not,decide_eq_true_eq] at hu1 hu2
 have hmono:∀ i,i + 1 ≤ l.length - 1 → sg l j0 i + 1 ≤ sg l j0 (l.length - 1):=fun i hi=>by
  have a:=sg_le l j0 (i + 1) (l.length - 1) hi
  have b:=(h.t (j0 + i)).1
  simp only [sg] at a; omega
 have hall:∀ i,i < l.length → 0 ≤ sg l j0 i ∧ t0 + sg l j0 i ≤ 12:=fun i hi=>by
  have a:=sg_le l j0 i (l.length - 1) (by omega)
  have b:=(sg_mono l j0 i).1
  omega
 refine ⟨j0,u,hu,fun i hi=>?_, ?_,fun i hi hi2=>?_, ?_, ?_⟩
 ·have a:=hu2 i hi
  have b:=hth i
  have c1:=(hall i (by omega)).1
  have d1:=hd (j0 + i)
  have:=side_up h.toPoly hn h0 h1 (j0 + i) (by omega)
  rwa [show fv m (pt l (j0 + (i + 1))) - c - (fv m (pt l (j0 + i)) - c) = fv m (pt l (j0 + i + 1)) - fv m (pt l (j0 + i)) by rw [← Nat.add_assoc]; grind]
 ·have b:=hth u
  have c1:=hall u hu
  have d1:=hd (j0 + u)
  by_cases e:t0 + sg l j0 u = 4 ∨ t0 + sg l j0 u = 12
  ·refine .inl ?_
   have:=side_flat h.toPoly hn h0 h1 (j0 + u) (by omega)
   rw [← Nat.add_assoc,this]
  ·refine .inr ?_
   have:=side_down h.toPoly hn h0 h1 (j0 + u) (by omega)
   rwa [show fv m (pt l (j0 + u)) - c - (fv m (pt l (j0 + (u + 1))) - c) = fv m (pt l (j0 + u)) - fv m (pt l (j0 + u + 1)) by rw [← Nat.add_assoc]; grind]
 ·have a:=sg_le l j0 (u + 1) i (by omega)
  have b:=hth i
  have b1:=(h.t (j0 + u)).1
  simp only [sg] at a
  have c1:=hmono i (by omega)
  have c2:=hall (l.length - 1) (by omega)
  have d1:=hd (j0 + i)
  have:=side_down h.toPoly hn h0 h1 (j0 + i) (by omega)
  rwa [show fv m (pt l (j0 + i)) - c - (fv m (pt l (j0 + (i + 1))) - c) = fv m (pt l (j0 + i)) - fv m (pt l (j0 + i + 1)) by rw [← Nat.add_assoc]; grind]
 ·have b:=hth (l.length - 1)
  have c1:=hall (l.length - 1) (by omega)
  have d1:=hd (j0 + (l.length - 1))
  have en:j0 + l.length = j0 + (l.length - 1) + 1:=by omega
  by_cases e:t0 + sg l j0 (l.length - 1) = 12
  ·refine .inl ?_
   have:=side_flat h.toPoly hn h0 h1 (j0 + (l.length - 1)) (by omega)
   rw [en,this]
  ·refine .inr ?_
   have:=side_down h.toPoly hn h0 h1 (j0 + (l.length - 1)) (by omega)
   rwa [en,show fv m (pt l (j0 + (l.length - 1))) - c - (fv m (pt l (j0 + (l.length - 1) + 1)) - c) = fv m (pt l (j0 + (l.length - 1))) - fv m (pt l (j0 + (l.length - 1) + 1)) by grind]
 ·simp only [Nat.add_zero]
  unfold pt
  rw [Nat.add_mod_right]
theorem polI_conv {l:List Pt} (h:polI l = true):Conv l:=by
 obtain ⟨hp,hn3,hn16,-⟩:=polI_poly h
 rw [pol_eq] at h
 unfold polS turnsS at h
 simp only [Bool.and_eq_true,decide_eq_true_eq,List.all_eq_true,List.mem_range] at h
 obtain ⟨⟨-,hturn⟩,hsum⟩:=h
 have hn:0 < l.length:=by omega
 refine ⟨hp,hn,fun k=>?_,by rw [← sumT_sg l _ (Nat.le_refl _)]; exact hsum⟩
 have hm:k % l.length < l.length:=Nat.mod_lt _ hn
 have e:tau l k = tau l (k % l.length):=by
  unfold tau dm
  rw [Nat.mod_mod,Nat.mod_add_mod]
 rw [e,tau_turnS hm]
 exact (inB_iff ..).1 (hturn _ hm)
end Go.Vai
namespace Go.Vai
def endsF (l:Li) (p q:Pt):List Pt:=(if sd l p = 0 then [p] else []) ++ (if sd l p * sd l q < 0 then [meetP (sideL p q) l] else [])
def endsN (l:Li) (ps:List Pt):Nat → List Pt
 | 0=>[]
 | k + 1=>endsN l ps k ++ endsF l (nth ps k) (nxt ps k)
theorem endsF_len (l:Li) (p q:Pt):(endsF l p q).length = eN (sd l p) (sd l q):=by
 unfold endsF eN
 rw [List.length_append]
 congr 1 <;> split <;> rfl
theorem endsN_len (l:Li) (ps:List Pt):∀ k,k ≤ ps.length → (endsN l ps k).length = cN (fun i=>sd l (pt ps i)) k
 | 0,_=>rfl
 | k + 1,h=>by
  simp only [endsN,List.length_append,cN]
  rw [endsN_len l ps k (by omega),endsF_len,pt_lt (by omega)]
  rfl
theorem cN_add (s:Nat → Int) (j:Nat):∀ r,cN s (j + r) = cN s j + cN (fun i=>s (j + i)) r
 | 0=>rfl
 | r + 1=>by
  rw [← Nat.add_assoc]
  simp only [cN]
  rw [cN_add s j r,Nat.add_assoc,Nat.add_assoc]
theorem cN_shift {s:Nat → Int} {n:Nat} (h:∀ i,s (i + n) = s i) (j:Nat):cN (fun i=>s (j + i)) n = cN s n:=by
 have e1:=cN_add s j n
 have e2:=cN_add s n j
 have e3:(fun i=>s (n + i)) = s:=by funext i; rw [Nat.add_comm,h]
 rw [e3,Nat.add_comm n j] at e2
 omega
theorem sd_sgn {l:Li} {p:Pt} (hl:Lok l) (hp:PK p):SgnP (sd l p) (fv (l.dir + 4) p - val l.off):=by
 have:=sgnP_nsign (nsub (ndot (vec (l.dir + 4)) p) l.off)
 rw [val_nsub (ndot_k (vec_k _) hp) hl.k0,val_ndot (vec_k _) hp] at this
 exact this
theorem hasN_pt {l:Li} {s:Int} {ps:List Pt} (h:hasN l s ps ps.length = true) (j0:Nat):∃ i,i < ps.length ∧ 0 < s * sd l (pt ps (j0 + i)):=by
 obtain ⟨k,hk,hs⟩:=(hasN_any l s ps ps.length).1 h
 have hn:0 < ps.length:=by omega
 refine ⟨(k + ps.length - j0 % ps.length) % ps.length,Nat.mod_lt _ hn, ?_⟩
 have hj:j0 % ps.length < ps.length:=Nat.mod_lt _ hn
 have e:(j0 + (k + ps.length - j0 % ps.length) % ps.length) % ps.length = k:=by
  rw [Nat.add_mod_mod]
  have h1:(j0 + (k + ps.length - j0 % ps.length)) % ps.length = (j0 % ps.length + (k + ps.length - j0 % ps.length)) % ps.length:=by rw [Nat.mod_add_mod]
  rw [h1,show j0 % ps.length + (k + ps.length - j0 % ps.length) = k + ps.length by omega,Nat.add_mod_right,Nat.mod_eq_of_lt hk]
 unfold pt
 rw [e]; exact hs
theorem ends_two {l:Li} {ps:List Pt} (hc:Conv ps) (hl:Lok l) (h1:hasN l 1 ps ps.length = true) (h2:hasN l (-1) ps ps.length = true):(endsN l ps ps.length).length = 2:=by
 have hn:=hc.n
 have hpk:∀ k,PK (pt ps k):=fun k=>hc.pk _ (nth_mem (Nat.mod_lt _ hn))
 obtain ⟨j0,u,hu⟩:=hc.uni (m:=l.dir + 4) (by have:=hl.d0; omega) (by have:=hl.d1; omega) (val l.off)
 rw [endsN_len l ps _ (Nat.le_refl _),← cN_shift (s:=fun i=>sd l (pt ps i)) (n:=ps.length) (fun i=>by simp only [pt,Nat.add_mod_right]) j0]
 refine hu.two (fun i=>sd_sgn hl (hpk _)) ?_ ?_
 ·obtain ⟨i,hi,hs⟩:=hasN_pt h1 j0
  refine ⟨i,hi, ?_⟩
  rcases sd_range l (pt ps (j0 + i)) with e | e | e <;> rw [e] at hs <;> simp_all
 ·obtain ⟨i,hi,hs⟩:=hasN_pt h2 j0
  refine ⟨i,hi, ?_⟩
  rcases sd_range l (pt ps (j0 + i)) with e | e | e <;> rw [e] at hs <;> simp_all
theorem sd_on {l:Li} {p:Pt} (hl:Lok l) (hp:PK p) (h:on l p):sd l p = 0:=by
 have:=sd_sgn hl hp
 have e:fv (l.dir + 4) p - val l.off = 0:=by
  have h':fv (l.dir + 4) p = val l.off:=h
  rw [h']; grind
 rw [e] at this
 rcases this with ⟨-,h⟩ | h | ⟨-,h⟩
 ·exact (h.ne rfl).elim
 ·exact h.1
 ·exact (h.ne (by grind)).elim
def onB (l:Li) (p:Pt):Bool:=decide (sd l p = 0)
theorem cutF_filter {l:Li} {p q:Pt} (h:sd l p * sd l q < 0 → sd l (meetP (sideL p q) l) = 0):(cutF l 1 p q).filter (onB l) = endsF l p q:=by
 unfold cutF endsF
 rw [List.filter_append]
 congr 1
 ·by_cases h0:sd l p = 0
  ·simp [h0,onB]
  ·rw [if_neg h0]
   split <;> simp [onB,h0]
 ·rw [Int.one_mul,Int.one_mul]
  by_cases h0:sd l p * sd l q < 0
  ·rw [if_pos h0]; simp [onB,h h0]
  ·rw [if_neg h0]; rfl
theorem good_meet {K M:Nat} {l:Li} {ps:List Pt} (hg:Good K M l 1 ps) (hl:Lok l) (hp:∀ p ∈ ps,PK p) {k:Nat} (hk:k < ps.length) (h:sd l (nth ps k) * sd l (nxt ps k) < 0):sd l (meetP (sideL (nth ps k) (nxt ps k)) l) = 0:=by
 obtain ⟨g1,g2,g3⟩:=hg k hk (by rw [Int.one_mul,Int.one_mul]; exact h)
 have hs:Lok (sideL (nth ps k) (nxt ps k)):=sideL_ok (hp _ (nth_mem hk))
 exact sd_on hl (meet_k hs hl) (meet_on hs hl g2).2
theorem cutN_filter {K M:Nat} {l:Li} {ps:List Pt} (hg:Good K M l 1 ps) (hl:Lok l) (hp:∀ p ∈ ps,PK p):∀ k,k ≤ ps.length → (cutN l 1 ps k).filter (onB l) = endsN l ps k
 | 0,_=>rfl
 | k + 1,hk=>by
  simp only [cutN,endsN,List.filter_append]
  rw [cutN_filter hg hl hp k (by omega),cutF_filter fun h=>good_meet hg hl hp (by omega) h]
def chordE (l:Li) (ps:List Pt):List Pt:=(partR l 1 ps).filter (onB l)
theorem chord_two {K M:Nat} {l:Li} {ps:List Pt} (hg:Good K M l 1 ps) (hl:Lok l) (hp:∀ p ∈ ps,PK p) (h1:hasN l 1 ps ps.length = true) (h2:(endsN l ps ps.length).length = 2) :
  ∃ x y,endsN l ps ps.length = [x,y] ∧ (chordE l ps = [x,y] ∨ chordE l ps = [y,x]):=by
 obtain ⟨x,y,e⟩:∃ x y,endsN l ps ps.length = [x,y]:=by
  match h:endsN l ps ps.length,h2 with
  | [x,y],_=>exact ⟨x,y,rfl⟩
 refine ⟨x,y,e, ?_⟩
 have hf:=cutN_filter hg hl hp ps.length (Nat.le_refl _)
 rw [e] at hf
 unfold chordE partR
 rw [if_pos h1]
 unfold rot0
 generalize cutN l 1 ps ps.length = X at *
 generalize least X = c
 rw [List.filter_append]
 have hs:(List.take c X).filter (onB l) ++ (List.drop c X).filter (onB l) = [x,y]:=by rw [← List.filter_append,List.take_append_drop]; exact hf
 generalize (List.take c X).filter (onB l) = A at *
 generalize (List.drop c X).filter (onB l) = B at *
 match A,hs with
 | [],hs=>left; simpa using hs
 | [a],hs =>
  right
  simp only [List.cons_append,List.nil_append,List.cons.injEq] at hs
  obtain ⟨rfl,rfl⟩:=hs
  rfl
 | [a,b],hs =>
  left
  simp only [List.cons_append,List.nil_append,List.cons.injEq] at hs
  obtain ⟨rfl,rfl,rfl⟩:=hs
  rfl
 | a :: b :: c :: t,hs=>simp at hs
theorem nsign_val {x y:Nu} (h:val x = val y):nsign x = nsign y:=(sgnP_nsign x).eq (sgnP_nsign y) h.symm
theorem nsign_opp {x y:Nu} (h:val x = -val y):nsign x = -nsign y:=by
 rw [← nsign_neg]; exact nsign_val (by rw [val_nneg]; exact h)
def nleast (a b:Nu):Nu:=if nsign (nsub a b) < 0 then a else b
def nmost (a b:Nu):Nu:=if 0 < nsign (nsub a b) then a else b
def crS (a b x y:Nu):Bool:=decide (0 < nsign (nsub (nleast (nmost x y) b) (nmost (nleast x y) a)))
theorem nleast_k {a b:Nu} (ha:0 ≤ a.k) (hb:0 ≤ b.k):0 ≤ (nleast a b).k:=by unfold nleast; split <;> assumption
theorem nmost_k {a b:Nu} (ha:0 ≤ a.k) (hb:0 ≤ b.k):0 ≤ (nmost a b).k:=by unfold nmost; split <;> assumption
theorem nsub_val {a b c d:Nu} (ha:0 ≤ a.k) (hb:0 ≤ b.k) (hc:0 ≤ c.k) (hd:0 ≤ d.k) (h1:val a = val c) (h2:val b = val d):nsign (nsub a b) = nsign (nsub c d) :=
 nsign_val (by rw [val_nsub ha hb,val_nsub hc hd,h1,h2])
theorem nleast_val {a b c d:Nu} (ha:0 ≤ a.k) (hb:0 ≤ b.k) (hc:0 ≤ c.k) (hd:0 ≤ d.k) (h1:val a = val c) (h2:val b = val d):val (nleast a b) = val (nleast c d):=by
 unfold nleast
 rw [nsub_val ha hb hc hd h1 h2]
 split <;> assumption
theorem nmost_val {a b c d:Nu} (ha:0 ≤ a.k) (hb:0 ≤ b.k) (hc:0 ≤ c.k) (hd:0 ≤ d.k) (h1:val a = val c) (h2:val b = val d):val (nmost a b) = val (nmost c d):=by
 unfold nmost
 rw [nsub_val ha hb hc hd h1 h2]
 split <;> assumption
theorem nsub_anti {a b:Nu} (ha:0 ≤ a.k) (hb:0 ≤ b.k):nsign (nsub b a) = -nsign (nsub a b):=ncmp_anti ha hb
theorem nsub_eq {a b:Nu} (ha:0 ≤ a.k) (hb:0 ≤ b.k) (h:nsign (nsub a b) = 0):val a = val b:=(ncmp_zero ha hb).1 h
theorem nleast_comm {a b:Nu} (ha:0 ≤ a.k) (hb:0 ≤ b.k):val (nleast a b) = val (nleast b a):=by
 unfold nleast
 have e:=nsub_anti ha hb
 have z:=nsub_eq ha hb
 have r:=nsign_range (nsub a b)
 by_cases h:nsign (nsub a b) < 0
 ·rw [if_pos h,if_neg (by omega)]
 ·rw [if_neg h]
  by_cases h':nsign (nsub b a) < 0
  ·rw [if_pos h']
  ·rw [if_neg h']; exact (z (by omega)).symm
theorem nmost_comm {a b:Nu} (ha:0 ≤ a.k) (hb:0 ≤ b.k):val (nmost a b) = val (nmost b a):=by
 unfold nmost
 have e:=nsub_anti ha hb
 have z:=nsub_eq ha hb
 have r:=nsign_range (nsub a b)
 by_cases h:0 < nsign (nsub a b)
 ·rw [if_pos h,if_neg (by omega)]
 ·rw [if_neg h]
  by_cases h':0 < nsign (nsub b a)
  ·rw [if_pos h']
  ·rw [if_neg h']; exact (z (by omega)).symm
theorem crS_comm {a b x y:Nu} (ha:0 ≤ a.k) (hb:0 ≤ b.k) (hx:0 ≤ x.k) (hy:0 ≤ y.k):crS a b x y = crS a b y x:=by
 unfold crS
 rw [nsub_val (nleast_k (nmost_k hx hy) hb) (nmost_k (nleast_k hx hy) ha) (nleast_k (nmost_k hy hx) hb) (nmost_k (nleast_k hy hx) ha)
  (nleast_val (nmost_k hx hy) hb (nmost_k hy hx) hb (nmost_comm hx hy) rfl) (nmost_val (nleast_k hx hy) ha (nleast_k hy hx) ha (nleast_comm hx hy) rfl)]
def lo2 (a b:Nu):Nu:=if 0 < ncmp a b then b else a
def hi2 (a b:Nu):Nu:=if 0 < ncmp a b then a else b
def shLo (a c:Nu):Nu:=if 0 < ncmp c a then c else a
def shHi (b e:Nu):Nu:=if ncmp e b < 0 then e else b
def shB (a b x y:Nu):Bool:=decide (ncmp (shLo a (lo2 x y)) (shHi b (hi2 x y)) < 0)
theorem shB_crS {a b x y:Nu} (ha:0 ≤ a.k) (hb:0 ≤ b.k) (hx:0 ≤ x.k) (hy:0 ≤ y.k):shB a b x y = crS a b x y:=by
 have e1:hi2 x y = nmost x y:=rfl
 have k1:0 ≤ (lo2 x y).k:=by unfold lo2; split <;> assumption
 have e2:val (lo2 x y) = val (nleast x y):=by
  unfold lo2 nleast
  have z:=nsub_eq hx hy
  have r:=nsign_range (nsub x y)
  have hh:ncmp x y = nsign (nsub x y):=rfl
  rw [hh]
  by_cases h:0 < nsign (nsub x y)
  ·rw [if_pos h,if_neg (by omega)]
  ·rw [if_neg h]
   by_cases h':nsign (nsub x y) < 0
   ·rw [if_pos h']
   ·rw [if_neg h']; exact z (by omega)
 have e3:val (shLo a (lo2 x y)) = val (nmost (nleast x y) a):=nmost_val k1 ha (nleast_k hx hy) ha e2 rfl
 have e4:shHi b (hi2 x y) = nleast (nmost x y) b:=rfl
 have k2:0 ≤ (shLo a (lo2 x y)).k:=by unfold shLo; split <;> assumption
 unfold shB crS
 rw [e4]
 have k3:=nleast_k (nmost_k hx hy) hb
 have k4:=nmost_k (nleast_k hx hy) ha
 have:ncmp (shLo a (lo2 x y)) (nleast (nmost x y) b) = -nsign (nsub (nleast (nmost x y) b) (nmost (nleast x y) a)):=by
  unfold ncmp
  refine nsign_opp ?_
  rw [val_nsub k2 k3,val_nsub k3 k4,e3]; grind
 rw [this]
 apply decide_eq_decide.2
 omega
theorem ahead {p q:Pt} {d:Int} (hp:PK p) (hq:PK q) (h0:0 ≤ d) (hd:dirR (pminus q p) = d):ncmp (ndot (vec d) p) (ndot (vec d) q) = -1:=by
 have h1:d ≤ 15:=by have:=(dirR_range (pminus q p)).2; omega
 have hw:=dir_pos (w:=pminus q p) (t:=d) (m:=d) (pk_minus hq) h0 h1 h0 h1 (by omega) hd
 have e:=fv_way (m:=d) hp hq
 have ep:val (ndot (vec d) p) = fv d p:=val_ndot (vec_k _) hp
 have eq:val (ndot (vec d) q) = fv d q:=val_ndot (vec_k _) hq
 have hs:=sgnP_nsign (nsub (ndot (vec d) p) (ndot (vec d) q))
 rw [val_nsub (ndot_k (vec_k _) hp) (ndot_k (vec_k _) hq),ep,eq,e] at hs
 refine hs.neg.2 ?_
 rwa [show -(fv d p - (fv d p + val (ndot (vec d) (pminus q p)))) = val (ndot (vec d) (pminus q p)) by grind]
end Go.Vai
namespace Go.Vai
@[simp] theorem encN_len3 (x:Nu):(encN x).length = 3:=rfl
@[simp] theorem encN_take3 (x:Nu):List.take 3 (encN x) = encN x:=rfl
@[simp] theorem encN_takeA (x:Nu) (l:List IV):List.take 3 (encN x ++ l) = encN x:=rfl
@[simp] theorem encP_takeA (x:Pt) (l:List IV):List.take 6 (encP x ++ l) = encP x:=rfl
theorem dotB {v p:Pt} {K M:Nat} (hv:PB 0 1 v) (hp:PB K M p):NB K (6 * M) (ndot v p):=by
 have:=hv.dot hp
 rwa [Nat.zero_add,Nat.one_mul] at this
theorem c255 (v p q:Pt) {K M:Nat} (hv:PB 0 1 v) (hp:PB K M p) (hq:PB K M q) (hK:K ≤ 60) (hM:12 * M ≤ 4611686018427387904) :
  PC E 255 [.agg (encP v),.agg (encP p),.agg (encP q)] [.agg (encN (lo2 (ndot v p) (ndot v q))),.agg (encN (hi2 (ndot v p) (ndot v q)))]:=by
 refine zP hE Proofs.Tryz.func255 Proofs.Tryz.ntmps255 rfl rfl ?_
 simp (maxSteps:=999999) (disch:=first|exact {}|omega|simp) [zS]
 refine zC (c138 v p hv hp (by omega) (by omega) (by decide)) ?_
 simp (maxSteps:=999999) (disch:=first|exact {}|omega|simp) [zS]
 refine zC (c138 v q hv hq (by omega) (by omega) (by decide)) ?_
 simp (maxSteps:=999999) (disch:=first|exact {}|omega|simp) [zS]
 refine zC (c151 (ndot v p) (ndot v q) (dotB hv hp) (dotB hv hq) hK (by omega)) ?_
 simp (maxSteps:=999999) (disch:=first|exact {}|omega|simp) [zS]
 (first | refine Gd.dec (fun h1=>?_) (fun h1=>?_) | refine Gd.intro (fun h1=>?_) (fun h1=>?_)) <;> simp (maxSteps:=999999) (disch:=first|exact {}|omega|simp) [zS,h1]
 ·refine Xc_late E _ _ _ 2 [1] [6,7] (by kernel_rfl) (by kernel_rfl) ?_
  simp (maxSteps:=999999) (disch:=first|exact {}|omega|simp) [zS,lo2,hi2,h1]
 ·refine Xc_late E _ _ _ 2 [1] [6,7] (by kernel_rfl) (by kernel_rfl) ?_
  simp (maxSteps:=999999) (disch:=first|exact {}|omega|simp) [zS,lo2,hi2,h1]
theorem c195 (v p q x y:Pt) {K M:Nat} (hv:PB 0 1 v) (hp:PB K M p) (hq:PB K M q) (hx:PB K M x) (hy:PB K M y) (hK:K ≤ 60) (hM:12 * M ≤ 4611686018427387904) :
  PC E 195 [.agg (encP v),.agg (encP p),.agg (encP q),.agg (encP x),.agg (encP y)]
   [.agg (encN (shLo (lo2 (ndot v p) (ndot v q)) (lo2 (ndot v x) (ndot v y)))),.agg (encN (shHi (hi2 (ndot v p) (ndot v q)) (hi2 (ndot v x) (ndot v y)))),.i (.bool (decide (ncmp (shLo (lo2 (ndot v p) (ndot v q)) (lo2 (ndot v x) (ndot v y))) (shHi (hi2 (ndot v p) (ndot v q)) (hi2 (ndot v x) (ndot v y))) < 0)))]:=by
 have bl:∀ {a b:Nu},NB K (6 * M) a → NB K (6 * M) b → NB K (6 * M) (lo2 a b) ∧ NB K (6 * M) (hi2 a b):=fun {a b} ha hb=>by
  unfold lo2 hi2; split <;> exact ⟨by assumption,by assumption⟩
 obtain ⟨b1,b2⟩:=bl (dotB hv hp) (dotB hv hq)
 obtain ⟨b3,b4⟩:=bl (dotB hv hx) (dotB hv hy)
 refine zP hE Proofs.Tryz.func195 Proofs.Tryz.ntmps195 rfl rfl ?_
 simp (maxSteps:=999999) (disch:=first|exact {}|omega|simp) [zS]
 refine zC (c255 v p q hv hp hq hK hM) ?_
 simp (maxSteps:=999999) (disch:=first|exact {}|omega|simp) [zS]
 refine zC (c255 v x y hv hx hy hK hM) ?_
 generalize lo2 (ndot v p) (ndot v q) = a at *
 generalize hi2 (ndot v p) (ndot v q) = b at *
 generalize lo2 (ndot v x) (ndot v y) = c at *
 generalize hi2 (ndot v x) (ndot v y) = e at *
 simp (maxSteps:=999999) (disch:=first|exact {}|omega|simp) [zS]
 refine zC (c151 c a b3 b1 hK (by omega)) ?_
 simp (maxSteps:=999999) (disch:=first|exact {}|omega|simp) [zS]
 (first | refine Gd.dec (fun h1=>?_) (fun h1=>?_) | refine Gd.intro (fun h1=>?_) (fun h1=>?_)) <;> simp (maxSteps:=999999) (disch:=first|exact {}|omega|simp) [zS,h1]
 ·refine zC (c151 e b b4 b2 hK (by omega)) ?_
  simp (maxSteps:=999999) (disch:=first|exact {}|omega|simp) [zS]
  (first | refine Gd.dec (fun h2=>?_) (fun h2=>?_) | refine Gd.intro (fun h2=>?_) (fun h2=>?_)) <;> simp (maxSteps:=999999) (disch:=first|exact {}|omega|simp) [zS,h2]
  ·refine Xc_late E _ _ _ 6 [1,5] [10,11] (by kernel_rfl) (by kernel_rfl) ?_
   simp (maxSteps:=999999) (disch:=first|exact {}|omega|simp) [zS]
   refine zC (c151 c e b3 b4 hK (by omega)) ?_
   simp (maxSteps:=999999) (disch:=first|exact {}|omega|simp) [zS,shLo,shHi,h1,h2]
  ·refine Xc_late E _ _ _ 6 [1,5] [10,11] (by kernel_rfl) (by kernel_rfl) ?_
   simp (maxSteps:=999999) (disch:=first|exact {}|omega|simp) [zS]
   refine zC (c151 c b b3 b2 hK (by omega)) ?_
   simp (maxSteps:=999999) (disch:=first|exact {}|omega|simp) [zS,shLo,shHi,h1,h2]
 ·refine zC (c151 e b b4 b2 hK (by omega)) ?_
  simp (maxSteps:=999999) (disch:=first|exact {}|omega|simp) [zS]
  (first | refine Gd.dec (fun h2=>?_) (fun h2=>?_) | refine Gd.intro (fun h2=>?_) (fun h2=>?_)) <;> simp (maxSteps:=999999) (disch:=first|exact {}|omega|simp) [zS,h2]
  ·refine Xc_late E _ _ _ 6 [1,5] [10,11] (by kernel_rfl) (by kernel_rfl) ?_
   simp (maxSteps:=999999) (disch:=first|exact {}|omega|simp) [zS]
   refine zC (c151 a e b1 b4 hK (by omega)) ?_
   simp (maxSteps:=999999) (disch:=first|exact {}|omega|simp) [zS,shLo,shHi,h1,h2]
  ·refine Xc_late E _ _ _ 6 [1,5] [10,11] (by kernel_rfl) (by kernel_rfl) ?_
   simp (maxSteps:=999999) (disch:=first|exact {}|omega|simp) [zS]
   refine zC (c151 a b b1 b2 hK (by omega)) ?_
   simp (maxSteps:=999999) (disch:=first|exact {}|omega|simp) [zS,shLo,shHi,h1,h2]
end Go.Vai
namespace Go.Vai
@[simp] theorem encLi_len4 (l:Li):(encLi l).length = 4:=rfl
def chordB (l:Li) (ps:List Pt):Bool:=decide (0 < (partR l 1 ps).length) && decide (0 < (partR l (-1) ps).length)
def z0:Pt:=⟨⟨0,0,0⟩,⟨0,0,0⟩⟩
def zc:List IV:=[.int .i64 0,.int .i64 0,.int .i64 0,.int .i64 0,.int .i64 0,.int .i64 0]
theorem encP_z0:encP z0 = zc:=rfl
def chX (l:Li) (ps:List Pt):Pt:=if chordB l ps = true then nth (chordE l ps) 0 else z0
def chY (l:Li) (ps:List Pt):Pt:=if chordB l ps = true then nth (chordE l ps) ((chordE l ps).length - 1) else z0
structure Chd (l:Li) (ps:List Pt):Prop where
 conv:Conv ps
 n16:ps.length ≤ 16
 pb:∀ p ∈ ps,PB (10 + 3) MP p
 ok:Lok l
 nb:NB 10 MM l.off
theorem Chd.good {l:Li} {ps:List Pt} (h:Chd l ps) (s:Int):Good 10 MM l s ps:=h.conv.toPoly.fine.good h.ok
theorem part_has {l:Li} {s:Int} {ps:List Pt} (h:0 < (partR l s ps).length):hasN l s ps ps.length = true:=by
 unfold partR at h
 split at h
 ·assumption
 ·simp at h
theorem part_len (l:Li) (s:Int) (ps:List Pt):(partR l s ps).length ≤ 2 * ps.length:=by
 unfold partR
 split
 ·rw [rot0_len]; exact cutN_len l s ps _
 ·simp
theorem Chd.partB {l:Li} {ps:List Pt} (h:Chd l ps) {s:Int}:∀ p ∈ partR l s ps,PB (10 + 3) MP p:=by
 intro p hp
 unfold partR at hp
 split at hp
 ·exact cutN_PB h.pb h.nb h.ok.d0 h.ok.d1 (h.good s) (by decide) _ (Nat.le_refl _) p (rot0_mem hp)
 ·simp at hp
theorem Chd.two {l:Li} {ps:List Pt} (h:Chd l ps) (hb:chordB l ps = true):∃ x y,endsN l ps ps.length = [x,y] ∧ (chordE l ps = [x,y] ∨ chordE l ps = [y,x]):=by
 simp only [chordB,Bool.and_eq_true,decide_eq_true_eq] at hb
 exact chord_two (h.good 1) h.ok h.conv.pk (part_has hb.1) (ends_two h.conv h.ok (part_has hb.1) (part_has hb.2))
theorem Chd.part {l:Li} {ps:List Pt} (h:Chd l ps) (s:Int) (hs:s = 1 ∨ s = -1):PC E 254 [.i (.sl (encPs ps)),.agg (encLi l),.i (.int .i64 s)] [.i (.sl (encPs (partR l s ps)))] :=
 (c254 ps l s h.pb h.nb h.ok.d0 h.ok.d1 (h.good s) (by decide) (by decide) (by decide) hs (by have:=h.n16; omega)).imm
def filK (l:Li) (Q:List Pt) (k:Nat):List Pt:=(Q.take k).filter (onB l)
theorem filK_succ {l:Li} {Q:List Pt} {k:Nat} (hk:k < Q.length):filK l Q (k + 1) = filK l Q k ++ if sd l (nth Q k) = 0 then [nth Q k] else []:=by
 unfold filK
 rw [List.take_succ_eq_append_getElem hk,List.filter_append,nth_eq hk]
 congr 1
 by_cases h:sd l Q[k] = 0
 ·rw [if_pos h]; simp [onB,h]
 ·rw [if_neg h]; simp [onB,h]
theorem filK_le (l:Li) (Q:List Pt) (k:Nat):(filK l Q k).length ≤ Q.length:=by
 unfold filK
 have h1:=List.length_filter_le (onB l) (Q.take k)
 have h2:(Q.take k).length ≤ Q.length:=by simp; omega
 omega
theorem c194 (ps:List Pt) (l:Li) (h:Chd l ps):PC E 194 [.i (.sl (encPs ps)),.agg (encLi l)] [.agg (encP (chX l ps)),.agg (encP (chY l ps)),.i (.bool (chordB l ps))]:=by
 have hln:=h.n16
 refine zP hE Proofs.Tryz.func194 Proofs.Tryz.ntmps194 rfl rfl ?_
 simp (maxSteps:=999999) (disch:=first|exact {}|omega|simp) [zS]
 refine zC (h.part 1 (.inl rfl)) ?_
 simp (maxSteps:=999999) (disch:=first|exact {}|omega|simp) [zS]
 (first | refine Gd.dec (fun h1=>?_) (fun h1=>?_) | refine Gd.intro (fun h1=>?_) (fun h1=>?_)) <;> simp (maxSteps:=999999) (disch:=first|exact {}|omega|simp) [zS,h1]
 ·have hc:chordB l ps = false:=by unfold chordB; rw [h1]; simp
  simp (maxSteps:=999999) (disch:=first|exact {}|omega|simp) [zS,chX,chY,hc,encP_z0,zc]
 refine zC (h.part (-1) (.inr rfl)) ?_
 simp (maxSteps:=999999) (disch:=first|exact {}|omega|simp) [zS]
 (first | refine Gd.dec (fun h2=>?_) (fun h2=>?_) | refine Gd.intro (fun h2=>?_) (fun h2=>?_)) <;> simp (maxSteps:=999999) (disch:=first|exact {}|omega|simp) [zS,h2]
 ·have hc:chordB l ps = false:=by unfold chordB; rw [h2]; simp
  simp (maxSteps:=999999) (disch:=first|exact {}|omega|simp) [zS,chX,chY,hc,encP_z0,zc]
 have hc:chordB l ps = true:=by
  unfold chordB
  rw [decide_eq_true (List.length_pos_iff.2 (by simpa using h1)),decide_eq_true (List.length_pos_iff.2 (by simpa using h2))]; rfl
 refine zC (h.part 1 (.inl rfl)) ?_
 simp (maxSteps:=999999) (disch:=first|exact {}|omega|simp) [zS]
 have hQB:=h.partB (s:=1)
 have hQl:=part_len l 1 ps
 obtain ⟨x,y,hxy,hE2⟩:=h.two hc
 have hfin:filK l (partR l 1 ps) (partR l 1 ps).length = chordE l ps:=by unfold filK chordE; rw [List.take_length]
 generalize hQ:partR l 1 ps = Q at *
 refine XL.by hE (ι:={ k:Nat // k ≤ Q.length }) (fun k=>⟨[(3,.ptr 3 0 0),(4,.ptr 4 0 0),(5,.ptr 5 0 0),(7,if filK l Q k.1 = [] then .esl else .own 39 0 (filK l Q k.1).length),(26,.i (.sl (encPs Q))),(27,.i (.int .i64 Q.length)),(28,.i (.int .i64 k.1))],
   (3,⟨4,[encLi l]⟩) :: (4,⟨6,[zc]⟩) :: (5,⟨6,[zc]⟩) :: (if filK l Q k.1 = [] then [] else [(39,⟨6,encPs (filK l Q k.1)⟩)])⟩)
  (fun k=>Q.length - k.1) ⟨0,Nat.zero_le _⟩ ⟨by simp [filK],by simp [filK,zc],by simp [filK]⟩ (by kernel_rfl) ?_
 rintro ⟨k,hk⟩
 have hfl:=filK_le l Q k
 by_cases hlt:k < Q.length
 ·have hst:=filK_succ (l:=l) hlt
  have hs:PC E 73 [.agg (encLi l),.agg (encP (nth Q k))] [.i (.int .i64 (sd l (nth Q k)))] :=
   c73 l (nth Q k) (hQB _ (nth_mem hlt)) (h.nb.up (K':=13) (by decide)) (by decide) (by decide) h.ok.d0 (by have:=h.ok.d1; omega)
  have tk:List.take (filK l Q k).length (List.map encP (filK l Q k)) = List.map encP (filK l Q k):=List.take_of_length_le (by simp)
  have big1:((filK l Q k).length:Int) + 1 ≤ 140737488355328:=by omega
  have big2:(((filK l Q k).length:Int) + 1) * 48 ≤ 140737488355328:=by omega
  by_cases hF:filK l Q k = []
  ·simp (maxSteps:=999999) (disch:=first|exact {}|omega|simp) [zS,hlt,encPs_get hlt,hF,zc]
   refine zC (hs) ?_
   simp (maxSteps:=999999) (disch:=first|exact {}|omega|simp) [zS]
   (first | refine Gd.dec (fun h4=>?_) (fun h4=>?_) | refine Gd.intro (fun h4=>?_) (fun h4=>?_)) <;> simp (maxSteps:=999999) (disch:=first|exact {}|omega|simp) [zS,h4]
   ·rw [if_pos h4,hF] at hst
    try (simp (maxSteps:=999999) (disch:=first|exact {}|omega|simp) [zS,hlt,encPs_get hlt,hF,most,zc])
    (refine ⟨⟨k + 1,by omega⟩,by (simp; try omega), ?_⟩; constructor <;> (simp (maxSteps:=999999) (disch:=first|exact {}|omega|simp) [zS,hst,encPs,zc]) <;> (try omega))
   ·rw [if_neg h4,hF] at hst
    (refine ⟨⟨k + 1,by omega⟩,by (simp; try omega), ?_⟩; constructor <;> (simp (maxSteps:=999999) (disch:=first|exact {}|omega|simp) [zS,hst,encPs,zc]) <;> (try omega))
  ·simp (maxSteps:=999999) (disch:=first|exact {}|omega|simp) [zS,hlt,encPs_get hlt,hF,zc]
   refine zC (hs) ?_
   simp (maxSteps:=999999) (disch:=first|exact {}|omega|simp) [zS]
   (first | refine Gd.dec (fun h4=>?_) (fun h4=>?_) | refine Gd.intro (fun h4=>?_) (fun h4=>?_)) <;> simp (maxSteps:=999999) (disch:=first|exact {}|omega|simp) [zS,h4]
   ·rw [if_pos h4] at hst
    try (simp (maxSteps:=999999) (disch:=first|exact {}|omega|simp) [zS,hlt,encPs_get hlt,hF,most,zc,big1,big2])
    (refine ⟨⟨k + 1,by omega⟩,by (simp; try omega), ?_⟩; constructor <;> (simp (maxSteps:=999999) (disch:=first|exact {}|omega|simp) [zS,hst,encPs,zc,tk]) <;> (try omega))
   ·rw [if_neg h4,List.append_nil] at hst
    (refine ⟨⟨k + 1,by omega⟩,by (simp; try omega), ?_⟩; constructor <;> (simp (maxSteps:=999999) (disch:=first|exact {}|omega|simp) [zS,hst,hF,encPs,zc]) <;> (try omega))
 ·obtain rfl:k = Q.length:=by omega
  rw [hfin]
  obtain ⟨a,b,hab⟩:∃ a b,chordE l ps = [a,b]:=by
   rcases hE2 with e | e
   ·exact ⟨x,y,e⟩
   ·exact ⟨y,x,e⟩
  have eX:chX l ps = a:=by unfold chX; rw [if_pos hc,hab]; rfl
  have eY:chY l ps = b:=by unfold chY; rw [if_pos hc,hab]; rfl
  rw [eX,eY,hc,hab]
  simp (maxSteps:=999999) (disch:=first|exact {}|omega|simp) [zS,zc,encPs]
  refine Xc_late E _ _ _ 9 [3,4,5,6,7,8] [4,5] (by kernel_rfl) (by kernel_rfl) ?_
  simp (maxSteps:=999999) (disch:=first|exact {}|omega|simp) [zS,zc,encPs]
def crossB (ps:List Pt) (p q:Pt):Bool :=
 decide (0 ≤ dirR (pminus q p)) && (chordB (sideL p q) ps && shB (ndot (vec (dirR (pminus q p))) p) (ndot (vec (dirR (pminus q p))) q) (ndot (vec (dirR (pminus q p))) (chX (sideL p q) ps)) (ndot (vec (dirR (pminus q p))) (chY (sideL p q) ps)))
theorem Chd.end_PB {l:Li} {ps:List Pt} (h:Chd l ps):PB (10 + 3) MP (chX l ps) ∧ PB (10 + 3) MP (chY l ps):=by
 have z:PB (10 + 3) MP z0:=⟨⟨by decide,by decide,by decide,by decide⟩,⟨by decide,by decide,by decide,by decide⟩⟩
 by_cases hc:chordB l ps = true
 ·obtain ⟨x,y,-,hE2⟩:=h.two hc
  have hm:∀ e ∈ chordE l ps,PB (10 + 3) MP e:=fun e he=>h.partB e ((List.mem_filter.1 he).1)
  unfold chX chY
  rw [if_pos hc,if_pos hc]
  rcases hE2 with e | e <;> rw [e] at hm ⊢ <;> exact ⟨hm _ (by simp [nth]),hm _ (by simp [nth])⟩
 ·unfold chX chY
  rw [if_neg hc,if_neg hc]; exact ⟨z,z⟩
structure Crs (ps:List Pt) (p q:Pt):Prop where
 conv:Conv ps
 n16:ps.length ≤ 16
 hp:PB 10 134217728 p
 hq:PB 10 134217728 q
theorem Crs.chd {ps:List Pt} {p q:Pt} (h:Crs ps p q):Chd (sideL p q) ps :=
 ⟨h.conv,h.n16,fun x hx=>up13 (h.conv.v x hx),sideL_ok h.hp.pk,side_NB h.hp⟩
theorem c108 (ps:List Pt) (p q:Pt) (h:Crs ps p q):PC E 108 [.i (.sl (encPs ps)),.agg (encP p),.agg (encP q)] [.i (.bool (crossB ps p q))]:=by
 have hdr:=dirR_range (pminus q p)
 have hch:=h.chd
 obtain ⟨bx,byy⟩:=hch.end_PB
 refine zP hE Proofs.Tryz.func108 Proofs.Tryz.ntmps108 rfl rfl ?_
 simp (maxSteps:=999999) (disch:=first|exact {}|omega|simp) [zS]
 refine zC (c141 p q h.hq h.hp (by decide) (by decide)) ?_
 simp (maxSteps:=999999) (disch:=first|exact {}|omega|simp) [zS]
 (first | refine Gd.dec (fun h1=>?_) (fun h1=>?_) | refine Gd.intro (fun h1=>?_) (fun h1=>?_)) <;> simp (maxSteps:=999999) (disch:=first|exact {}|omega|simp) [zS,h1]
 ·rw [show crossB ps p q = false by unfold crossB; rw [decide_eq_false (by omega)]; rfl]
 have e1:(dirR (pminus q p)).tmod 8 = dirR (pminus q p) % 8:=by rw [Int.tmod_eq_emod_of_nonneg (by omega)]
 simp (maxSteps:=999999) (disch:=first|exact {}|omega|simp) [zS,e1]
 refine zC (c142 p (dirR (pminus q p) % 8) h.hp (by decide) (by decide) (by omega) (by omega)) ?_
 rw [show lat p (dirR (pminus q p) % 8) = sideL p q from rfl]
 simp (maxSteps:=999999) (disch:=first|exact {}|omega|simp) [zS]
 refine zC (c194 ps (sideL p q) hch) ?_
 have hcr:crossB ps p q = (chordB (sideL p q) ps && shB (ndot (vec (dirR (pminus q p))) p) (ndot (vec (dirR (pminus q p))) q) (ndot (vec (dirR (pminus q p))) (chX (sideL p q) ps)) (ndot (vec (dirR (pminus q p))) (chY (sideL p q) ps))):=by
  unfold crossB; rw [decide_eq_true (by omega)]; rfl
 have hah:=ahead h.hp.pk h.hq.pk (d:=dirR (pminus q p)) (by omega) rfl
 generalize chX (sideL p q) ps = x at *
 generalize chY (sideL p q) ps = y at *
 generalize chordB (sideL p q) ps = ok at *
 simp (maxSteps:=999999) (disch:=first|exact {}|omega|simp) [zS]
 (first | refine Gd.dec (fun h2=>?_) (fun h2=>?_) | refine Gd.intro (fun h2=>?_) (fun h2=>?_)) <;> simp (maxSteps:=999999) (disch:=first|exact {}|omega|simp) [zS,h2]
 rotate_left
 ·rw [hcr,h2]; rfl
 refine zC (c196 (dirR (pminus q p)) (by omega) (by omega)) ?_
 simp (maxSteps:=999999) (disch:=first|exact {}|omega|simp) [zS]
 refine zC (c195 (vec (dirR (pminus q p))) p q x y (vec_PB (by omega) (by omega)) (up13 h.hp) (up13 h.hq) bx byy (by decide) (by decide)) ?_
 have e2:lo2 (ndot (vec (dirR (pminus q p))) p) (ndot (vec (dirR (pminus q p))) q) = ndot (vec (dirR (pminus q p))) p:=by unfold lo2; rw [if_neg (by omega)]
 have e3:hi2 (ndot (vec (dirR (pminus q p))) p) (ndot (vec (dirR (pminus q p))) q) = ndot (vec (dirR (pminus q p))) q:=by unfold hi2; rw [if_neg (by omega)]
 rw [e2,e3]
 simp (maxSteps:=999999) (disch:=first|exact {}|omega|simp) [zS,hcr,h2,shB]
end Go.Vai
