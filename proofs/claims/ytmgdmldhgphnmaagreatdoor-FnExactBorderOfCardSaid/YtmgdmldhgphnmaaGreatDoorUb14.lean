/- Texts of this claim: Zg5, Zg6, Zg7, Zg8. -/
import Derived.Test.YtmgdmldhgphnmaaGreatDoorUb13
import Derived.Test.YtmgdmldhgphnmaaGreatDoorUb12
set_option linter.unusedVariables false
set_option linter.unusedSimpArgs false
set_option maxHeartbeats 4000000
namespace Go.Vai
theorem sd_same {l:Li} {p q:Pt} (hl:Lok l) (hp:PK p) (hq:PK q) (h:val (ndot (vec (l.dir + 4)) p) = val (ndot (vec (l.dir + 4)) q)):sd l p = sd l q:=by
 have hv:=vec_k (l.dir + 4)
 have:=val_inj (ndot_k hv hp) (ndot_k hv hq) (low_ndot hv hp) (low_ndot hv hq) h
 unfold sd; rw [this]
theorem not_opp (s d:Int):¬ s * d * (s * d) < 0:=by
 rcases Int.le_total 0 (s * d) with h | h
 ·have:=Int.mul_nonneg h h; omega
 ·have:=Int.mul_nonneg_of_nonpos_of_nonpos h h; omega
theorem opp {l L:Li} {p q:Pt} {s:Int} (hl:Lok l) (hL:Lok L) (hp:PK p) (hq:PK q) (h1:on L p) (h2:on L q) (hx:s * sd l p * (s * sd l q) < 0) :
  ¬ (val q.x = val p.x ∧ val q.y = val p.y) ∧ L.dir ≠ l.dir:=by
 have hv:=vec_k (l.dir + 4)
 refine ⟨?_, ?_⟩
 ·rintro ⟨e1,e2⟩
  rw [sd_same hl hp hq (by rw [val_ndot hv hp,val_ndot hv hq,e1,e2])] at hx
  exact not_opp _ _ hx
 ·intro e
  unfold on at h1 h2
  rw [e] at h1 h2
  rw [sd_same hl hp hq (by rw [val_ndot hv hp,val_ndot hv hq,h1,h2])] at hx
  exact not_opp _ _ hx
def link (S:List Li) (p q:Pt):Prop:=∃ L ∈ S,on L p ∧ on L q
theorem link.mono {S S':List Li} {p q:Pt} (h:link S p q) (hs:∀ L ∈ S,L ∈ S'):link S' p q:=by
 obtain ⟨L,h1,h2⟩:=h; exact ⟨L,hs L h1,h2⟩
def SOk (K M:Nat) (S:List Li):Prop:=∀ L ∈ S,Lok L ∧ NB K M L.off
def Chain (S:List Li) (ps:List Pt):Prop:=∀ k,k < ps.length → link S (nth ps k) (nxt ps k)
theorem Chain.good {K M:Nat} {S:List Li} {ps:List Pt} {l:Li} {s:Int} (h:Chain S ps) (hS:SOk K M S) (hl:Lok l) (hp:∀ p ∈ ps,PK p):Good K M l s ps:=by
 intro k hk hx
 have hmod:(k + 1) % ps.length < ps.length:=Nat.mod_lt _ (by omega)
 obtain ⟨L,h1,h2,h3⟩:=h k hk
 have p1:=hp _ (nth_mem hk)
 have p2:PK (nxt ps k):=hp _ (nth_mem hmod)
 obtain ⟨q1,q2⟩:=opp hl (hS L h1).1 p1 p2 h2 h3 hx
 obtain ⟨r1,r2⟩:=sideL_on (hS L h1).1 p1 p2 h2 h3 q1
 rw [r2]
 exact ⟨r1,q2,(hS L h1).2⟩
def Linked (R:Pt → Pt → Prop) (l:List Pt):Prop:=∀ i,i + 1 < l.length → R (nth l i) (nth l (i + 1))
def lastOf (l:List Pt):Pt:=nth l (l.length - 1)
theorem nth_append_left {l m:List Pt} {i:Nat} (h:i < l.length):nth (l ++ m) i = nth l i:=by
 unfold nth; simp [List.getElem?_append_left h]
theorem nth_append_one (l:List Pt) (x:Pt):nth (l ++ [x]) l.length = x:=by
 unfold nth; simp
theorem last_snoc (l:List Pt) (x:Pt):lastOf (l ++ [x]) = x:=by
 unfold lastOf; rw [List.length_append]; simp [nth_append_one]
theorem Linked.snoc {R:Pt → Pt → Prop} {l:List Pt} {x:Pt} (h:Linked R l) (hx:l = [] ∨ R (lastOf l) x):Linked R (l ++ [x]):=by
 intro i hi
 rw [List.length_append] at hi
 simp at hi
 by_cases h2:i + 1 < l.length
 ·rw [nth_append_left (by omega),nth_append_left h2]; exact h i h2
 ·have e:i + 1 = l.length:=by omega
  rcases hx with rfl | hx
  ·simp at hi
  ·rw [nth_append_left (by omega),e,nth_append_one]
   unfold lastOf at hx
   rwa [show l.length - 1 = i by omega] at hx
theorem cut_step {K M:Nat} {S:List Li} {l:Li} {s:Int} {p q:Pt} {out:List Pt} (hS:SOk K M S) (hl:Lok l) (hs:s = 1 ∨ s = -1) (hp:PK p) (hq:PK q) (hpq:link S p q)
  (hL:Linked (link (l :: S)) out) (hJ:out = [] ∨ (if 0 ≤ s * sd l p then link (l :: S) (lastOf out) p else on l (lastOf out))) :
  Linked (link (l :: S)) (out ++ cutF l s p q) ∧ (out ++ cutF l s p q = [] ∨ (if 0 ≤ s * sd l q then link (l :: S) (lastOf (out ++ cutF l s p q)) q else on l (lastOf (out ++ cutF l s p q)))):=by
 obtain ⟨L,hLS,o1,o2⟩:=hpq
 have hLm:L ∈ l :: S:=List.mem_cons_of_mem _ hLS
 have hlm:l ∈ l :: S:=List.mem_cons_self
 have hz:∀ x,PK x → s * sd l x = 0 → on l x:=by
  intro x hx h0
  refine (sd_zero hl hx).1 ?_
  rcases hs with rfl | rfl <;> omega
 have hmeet:s * sd l p * (s * sd l q) < 0 → on L (meetP (sideL p q) l) ∧ on l (meetP (sideL p q) l):=by
  intro hx
  obtain ⟨q1,q2⟩:=opp hl (hS L hLS).1 hp hq o1 o2 hx
  obtain ⟨r1,r2⟩:=sideL_on (hS L hLS).1 hp hq o1 o2 q1
  rw [r2]
  exact meet_on (hS L hLS).1 hl q2
 have hsp:=sd_range l p
 have hsq:=sd_range l q
 unfold cutF
 generalize hA:s * sd l p = A at *
 generalize hB:s * sd l q = B at *
 have hA3:A = -1 ∨ A = 0 ∨ A = 1:=by rcases hs with rfl | rfl <;> omega
 have hB3:B = -1 ∨ B = 0 ∨ B = 1:=by rcases hs with rfl | rfl <;> omega
 by_cases h1:0 ≤ A
 ·rw [if_pos h1] at hJ
  have hL1:Linked (link (l :: S)) (out ++ [p]):=hL.snoc hJ
  by_cases h2:A * B < 0
  ·obtain ⟨m1,m2⟩:=hmeet h2
   have hB0:¬ 0 ≤ B:=by rcases hA3 with rfl | rfl | rfl <;> omega
   rw [if_pos h1,if_pos h2,if_neg hB0,← List.append_assoc]
   refine ⟨hL1.snoc (.inr ?_),.inr ?_⟩
   ·rw [last_snoc]; exact ⟨L,hLm,o1,m1⟩
   ·rw [last_snoc]; exact m2
  ·rw [if_pos h1,if_neg h2,List.append_nil]
   refine ⟨hL1,.inr ?_⟩
   rw [last_snoc]
   by_cases hB0:0 ≤ B
   ·rw [if_pos hB0]; exact ⟨L,hLm,o1,o2⟩
   ·rw [if_neg hB0]
    refine hz p hp ?_
    rw [hA]
    rcases hA3 with rfl | rfl | rfl <;> rcases hB3 with rfl | rfl | rfl <;> first | rfl | (exfalso; omega)
 ·rw [if_neg h1] at hJ
  by_cases h2:A * B < 0
  ·obtain ⟨m1,m2⟩:=hmeet h2
   have hB0:0 ≤ B:=by rcases hA3 with rfl | rfl | rfl <;> omega
   rw [if_neg h1,if_pos h2,if_pos hB0,List.nil_append]
   refine ⟨hL.snoc ?_,.inr ?_⟩
   ·rcases hJ with h | h
    ·exact .inl h
    ·exact .inr ⟨l,hlm,h,m2⟩
   ·rw [last_snoc]; exact ⟨L,hLm,m1,o2⟩
  ·rw [if_neg h1,if_neg h2,List.append_nil,List.append_nil]
   refine ⟨hL, ?_⟩
   rcases hJ with h | h
   ·exact .inl h
   ·refine .inr ?_
    by_cases hB0:0 ≤ B
    ·rw [if_pos hB0]
     refine ⟨l,hlm,h,hz q hq ?_⟩
     rw [hB]
     rcases hA3 with rfl | rfl | rfl <;> rcases hB3 with rfl | rfl | rfl <;> first | rfl | (exfalso; omega)
    ·rw [if_neg hB0]; exact h
end Go.Vai
namespace Go.Vai
theorem nth_rot {l:List Pt} {c k:Nat} (hc:c ≤ l.length) (hk:k < l.length):nth (l.drop c ++ l.take c) k = nth l ((k + c) % l.length):=by
 have hm:(k + c) % l.length < l.length:=Nat.mod_lt _ (by omega)
 rw [nth_eq hm]
 have hlen:(l.drop c ++ l.take c).length = l.length:=by simp; omega
 rw [nth_eq (by rw [hlen]; exact hk)]
 rw [List.getElem_append]
 split
 ·rename_i h
  simp at h
  rw [List.getElem_drop]
  congr 1
  rw [Nat.mod_eq_of_lt (by omega)]; omega
 ·rename_i h
  simp at h
  rw [List.getElem_take]
  congr 1
  rw [Nat.mod_eq_sub_mod (by omega),Nat.mod_eq_of_lt (by omega)]
  simp; omega
theorem Chain.rot {S:List Li} {l:List Pt} {c:Nat} (h:Chain S l) (hc:c ≤ l.length):Chain S (l.drop c ++ l.take c):=by
 have hlen:(l.drop c ++ l.take c).length = l.length:=by simp; omega
 intro k hk
 rw [hlen] at hk
 have hm:(k + c) % l.length < l.length:=Nat.mod_lt _ (by omega)
 have hm1:(k + 1) % l.length < l.length:=Nat.mod_lt _ (by omega)
 have:=h _ hm
 unfold nxt at this ⊢
 rw [hlen,nth_rot hc hk,nth_rot hc hm1]
 rw [show ((k + 1) % l.length + c) % l.length = ((k + c) % l.length + 1) % l.length by
  rw [Nat.mod_add_mod,Nat.mod_add_mod]; congr 1; omega]
 exact this
def pt (ps:List Pt) (k:Nat):Pt:=nth ps (k % ps.length)
theorem pt_lt {ps:List Pt} {k:Nat} (h:k < ps.length):pt ps k = nth ps k:=by unfold pt; rw [Nat.mod_eq_of_lt h]
structure Cut (S:List Li) (l:Li) (s:Int) (ps:List Pt) (k:Nat):Prop where
 L:Linked (link (l :: S)) (cutN l s ps k)
 J:cutN l s ps k = [] ∨ (if 0 ≤ s * sd l (pt ps k) then link (l :: S) (lastOf (cutN l s ps k)) (pt ps k) else on l (lastOf (cutN l s ps k)))
 F:cutN l s ps k = [] ∨ (if 0 ≤ s * sd l (pt ps 0) then nth (cutN l s ps k) 0 = pt ps 0 else on l (nth (cutN l s ps k) 0))
 G:cutN l s ps k = [] → 0 < k → ¬ 0 ≤ s * sd l (pt ps 0) ∧ s * sd l (pt ps k) ≤ 0
theorem cut_path {K M:Nat} {S:List Li} {l:Li} {s:Int} {ps:List Pt} (hS:SOk K M S) (hl:Lok l) (hs:s = 1 ∨ s = -1) (hp:∀ p ∈ ps,PK p) (hc:Chain S ps) :
  ∀ k,k ≤ ps.length → Cut S l s ps k
 | 0,_=>⟨fun i hi=>by simp [cutN] at hi,.inl rfl,.inl rfl,fun _ h=>absurd h (by omega)⟩
 | k + 1,hk=>by
  have ih:=cut_path hS hl hs hp hc k (by omega)
  have hlt:k < ps.length:=by omega
  have hmod:(k + 1) % ps.length < ps.length:=Nat.mod_lt _ (by omega)
  have pp:PK (pt ps k):=by rw [pt_lt hlt]; exact hp _ (nth_mem hlt)
  have pq:PK (pt ps (k + 1)):=hp _ (nth_mem hmod)
  have hpq:link S (pt ps k) (pt ps (k + 1)):=by rw [pt_lt hlt]; exact hc k hlt
  obtain ⟨r1,r2⟩:=cut_step hS hl hs pp pq hpq ih.L ih.J
  have he:cutN l s ps (k + 1) = cutN l s ps k ++ cutF l s (pt ps k) (pt ps (k + 1)):=by rw [pt_lt hlt]; rfl
  refine ⟨by rw [he]; exact r1,by rw [he]; exact r2, ?_, ?_⟩
  ·rw [he]
   by_cases h0:cutN l s ps k = []
   ·rw [h0,List.nil_append]
    by_cases hn:cutF l s (pt ps k) (pt ps (k + 1)) = []
    ·exact .inl hn
    ·refine .inr ?_
     have hx:¬ 0 ≤ s * sd l (pt ps k) → on l (nth (cutF l s (pt ps k) (pt ps (k + 1))) 0):=by
      intro hA
      unfold cutF at hn ⊢
      rw [if_neg hA,List.nil_append] at hn ⊢
      split at hn
      ·rename_i hx
       rw [if_pos hx]
       obtain ⟨L,hLS,o1,o2⟩:=hpq
       obtain ⟨q1,q2⟩:=opp hl (hS L hLS).1 pp pq o1 o2 hx
       obtain ⟨t1,t2⟩:=sideL_on (hS L hLS).1 pp pq o1 o2 q1
       show on l (meetP _ _)
       rw [t2]
       exact (meet_on (hS L hLS).1 hl q2).2
      ·exact absurd rfl hn
     have hy:0 ≤ s * sd l (pt ps k) → nth (cutF l s (pt ps k) (pt ps (k + 1))) 0 = pt ps k:=by
      intro hA
      unfold cutF
      rw [if_pos hA]; rfl
     by_cases hk0:k = 0
     ·subst hk0
      by_cases hA:0 ≤ s * sd l (pt ps 0)
      ·rw [if_pos hA]; exact hy hA
      ·rw [if_neg hA]; exact hx hA
     ·obtain ⟨g1,g2⟩:=ih.G h0 (by omega)
      rw [if_neg g1]
      by_cases hA:0 ≤ s * sd l (pt ps k)
      ·rw [hy hA]
       refine (sd_zero hl pp).1 ?_
       rcases hs with rfl | rfl <;> omega
      ·exact hx hA
   ·rcases ih.F with h | h
    ·exact absurd h h0
    ·rw [nth_append_left (List.length_pos_iff.2 h0)]
     exact .inr h
  ·intro hh _
   rw [he] at hh
   obtain ⟨h1,h2⟩:=List.append_eq_nil_iff.1 hh
   unfold cutF at h2
   obtain ⟨h3,h4⟩:=List.append_eq_nil_iff.1 h2
   have hA:¬ 0 ≤ s * sd l (pt ps k):=by intro hA; rw [if_pos hA] at h3; simp at h3
   have hAB:¬ s * sd l (pt ps k) * (s * sd l (pt ps (k + 1))) < 0:=by intro hx; rw [if_pos hx] at h4; simp at h4
   refine ⟨?_, ?_⟩
   ·by_cases hk0:k = 0
    ·subst hk0; exact hA
    ·exact (ih.G h1 (by omega)).1
   ·have e1:=sd_range l (pt ps k)
    have e2:=sd_range l (pt ps (k + 1))
    generalize sd l (pt ps k) = a at *
    generalize sd l (pt ps (k + 1)) = b at *
    rcases hs with rfl | rfl <;> rcases e1 with rfl | rfl | rfl <;> rcases e2 with rfl | rfl | rfl <;> omega
theorem Chain.cut {K M:Nat} {S:List Li} {l:Li} {s:Int} {ps:List Pt} (hS:SOk K M S) (hl:Lok l) (hs:s = 1 ∨ s = -1) (hp:∀ p ∈ ps,PK p) (hc:Chain S ps):Chain (l :: S) (cutN l s ps ps.length):=by
 have h:=cut_path hS hl hs hp hc ps.length (Nat.le_refl _)
 have e0:pt ps ps.length = pt ps 0:=by unfold pt; simp
 have hJ:=h.J
 have hF:=h.F
 have hL:=h.L
 rw [e0] at hJ
 generalize cutN l s ps ps.length = out at *
 intro k hk
 have hne:¬ out = []:=by rintro rfl; simp at hk
 by_cases hlt:k + 1 < out.length
 ·unfold nxt; rw [Nat.mod_eq_of_lt hlt]; exact hL k hlt
 ·have e:k + 1 = out.length:=by omega
  have e1:nxt out k = nth out 0:=by unfold nxt; rw [e,Nat.mod_self]
  have e2:nth out k = lastOf out:=by unfold lastOf; congr 1; omega
  rw [e1,e2]
  rcases hJ with hJ | hJ
  ·exact absurd hJ hne
  rcases hF with hF | hF
  ·exact absurd hF hne
  by_cases hA:0 ≤ s * sd l (pt ps 0)
  ·rw [if_pos hA] at hJ hF; rw [hF]; exact hJ
  ·rw [if_neg hA] at hJ hF
   exact ⟨l,List.mem_cons_self,hJ,hF⟩
end Go.Vai
namespace Go.Vai
theorem sideL_ok {p q:Pt} (hp:PK p):Lok (sideL p q):=lat_ok hp (by omega) (by omega)
theorem side_ends {p q:Pt} (hp:PK p) (hq:PK q) (h:0 ≤ dirR (pminus q p)):on (sideL p q) p ∧ on (sideL p q) q:=by
 have h1:on (sideL p q) p:=lat_on _ hp
 refine ⟨h1, ?_⟩
 have hw:PK (pminus q p):=pk_minus hq
 have wx:val (pminus q p).x = val q.x - val p.x:=val_nsub hq.1 hp.1
 have wy:val (pminus q p).y = val q.y - val p.y:=val_nsub hq.2 hp.2
 obtain ⟨i,hi,hid,hdr⟩:∃ i,i < 16 ∧ isDir (pminus q p) i = true ∧ dirR (pminus q p) = (i:Int):=by
  unfold dirR at h ⊢
  cases hf:(List.range 16).find? (isDir (pminus q p)) with
  | none=>rw [hf] at h; simp at h
  | some i=>exact ⟨i,List.mem_range.1 (List.mem_of_find?_eq_some hf),List.find?_some hf,rfl⟩
 have hci:pcross (vec i) (pminus q p) = ⟨0,0,0⟩:=by
  unfold isDir at hid
  simp only [Bool.and_eq_true,decide_eq_true_eq] at hid
  exact hid.1
 have hz:val (pcross (vec i) (pminus q p)) = 0:=by rw [hci]; exact val_zero
 rw [val_pcross (vec_k i) hw,wx,wy] at hz
 have hd:(sideL p q).dir = (i:Int) % 8:=by unfold sideL lat; rw [hdr]
 have hv:val (vec ((i:Int) % 8)).x * (val q.y - val p.y) - val (vec ((i:Int) % 8)).y * (val q.x - val p.x) = 0:=by
  by_cases h8:i < 8
  ·rw [show (i:Int) % 8 = i by omega]; exact hz
  ·have e:(i:Int) = (i:Int) % 8 + 8:=by omega
   rw [e,vec_half (by omega) (by omega)] at hz
   simp only [val_nneg] at hz
   grind
 have ht:vec ((sideL p q).dir + 4) = ⟨nneg (vec ((i:Int) % 8)).y,(vec ((i:Int) % 8)).x⟩:=by
  rw [hd]
  have:=vec_turn (d:=(i:Int) % 8) (by omega) (by omega)
  rwa [Int.emod_eq_of_lt (by omega) (by omega)] at this
 unfold on at h1 ⊢
 rw [ht] at h1 ⊢
 simp only [val_nneg] at h1 ⊢
 grind
def MM:Nat:=805306368
theorem side_NB {p q:Pt} (hp:PB 10 134217728 p):NB 10 MM (sideL p q).off:=by
 have:=(vec_PB (d:=dirR (pminus q p) % 8 + 4) (by omega) (by omega)).dot hp
 simp only [Nat.zero_add,Nat.one_mul] at this
 exact this
structure Poly (l:List Pt):Prop where
 v:∀ p ∈ l,PB 10 134217728 p
 d:∀ k,k < l.length → 0 ≤ dl l k
theorem Poly.pk {l:List Pt} (h:Poly l):∀ p ∈ l,PK p:=fun p hp=>(h.v p hp).pk
def linesOf (l:List Pt):List Li:=(List.range l.length).map fun k=>sideL (nth l k) (nxt l k)
theorem nxt_mem {l:List Pt} {k:Nat} (h:k < l.length):nxt l k ∈ l:=nth_mem (Nat.mod_lt _ (by omega))
theorem Poly.chain {l:List Pt} (h:Poly l):SOk 10 MM (linesOf l) ∧ Chain (linesOf l) l:=by
 refine ⟨fun L hL=>?_,fun k hk=>?_⟩
 ·obtain ⟨k,hk,rfl⟩:=List.mem_map.1 hL
  have hk':=List.mem_range.1 hk
  exact ⟨sideL_ok (h.pk _ (nth_mem hk')),side_NB (h.v _ (nth_mem hk'))⟩
 ·obtain ⟨e1,e2⟩:=side_ends (h.pk _ (nth_mem hk)) (h.pk _ (nxt_mem hk)) (h.d k hk)
  exact ⟨_,List.mem_map.2 ⟨k,List.mem_range.2 hk,rfl⟩,e1,e2⟩
theorem cutN_PK {l:Li} {s:Int} {ps:List Pt} (hl:Lok l) (hp:∀ p ∈ ps,PK p):∀ k,k ≤ ps.length → ∀ p ∈ cutN l s ps k,PK p
 | 0,_=>by simp [cutN]
 | k + 1,hk=>by
  intro p h
  simp only [cutN,List.mem_append] at h
  rcases h with h | h
  ·exact cutN_PK hl hp k (by omega) p h
  ·simp only [cutF,List.mem_append] at h
   rcases h with h | h
   ·split at h
    ·obtain rfl:=List.mem_singleton.1 h; exact hp _ (nth_mem (by omega))
    ·simp at h
   ·split at h
    ·obtain rfl:=List.mem_singleton.1 h
     exact meet_k (sideL_ok (hp _ (nth_mem (by omega)))) hl
    ·simp at h
theorem least_le (l:List Pt):least l ≤ l.length:=by
 by_cases h:l = []
 ·subst h; simp [least,leastF]
 ·exact Nat.le_of_lt (leastF_lt (Nat.le_refl _) (List.length_pos_iff.2 h))
def Fine (ps:List Pt):Prop:=∃ S,SOk 10 MM S ∧ Chain S ps ∧ ∀ p ∈ ps,PK p
theorem Fine.half {ps:List Pt} {l:Li} {s:Int} (h:Fine ps) (hl:Lok l) (hn:NB 10 MM l.off) (hs:s = 1 ∨ s = -1):Fine (halfR l s ps):=by
 obtain ⟨S,h1,h2,h3⟩:=h
 unfold halfR
 split
 ·refine ⟨l :: S,fun L hL=>?_,h2.cut h1 hl hs h3,cutN_PK hl h3 _ (Nat.le_refl _)⟩
  rcases List.mem_cons.1 hL with rfl | hL
  ·exact ⟨hl,hn⟩
  ·exact h1 L hL
 ·exact ⟨S,h1,fun k hk=>by simp at hk,by simp⟩
theorem Fine.rot {ps:List Pt} (h:Fine ps):Fine (rot0 ps):=by
 obtain ⟨S,h1,h2,h3⟩:=h
 exact ⟨S,h1,h2.rot (least_le ps),fun p hp=>h3 p (rot0_mem hp)⟩
theorem partR_eq (l:Li) (s:Int) (ps:List Pt):partR l s ps = if hasN l s ps ps.length = true then rot0 (halfR l s ps) else halfR l s ps:=by
 unfold partR halfR; split <;> simp_all
theorem Fine.part {ps:List Pt} {l:Li} {s:Int} (h:Fine ps) (hl:Lok l) (hn:NB 10 MM l.off) (hs:s = 1 ∨ s = -1):Fine (partR l s ps):=by
 rw [partR_eq]
 split
 ·exact (h.half hl hn hs).rot
 ·exact h.half hl hn hs
theorem Fine.good {ps:List Pt} {l:Li} {s:Int} (h:Fine ps) (hl:Lok l):Good 10 MM l s ps:=by
 obtain ⟨S,h1,h2,h3⟩:=h
 exact h2.good h1 hl h3
theorem Poly.fine {l:List Pt} (h:Poly l):Fine l:=⟨_,h.chain.1,h.chain.2,h.pk⟩
def MP:Nat:=576 * MM
theorem up13 {p:Pt} (h:PB 10 134217728 p):PB (10 + 3) MP p:=by
 have:=h.up (K':=13) (by decide)
 exact this.mono (by decide)
end Go.Vai
namespace Go.Vai
def Rot (x y:List Pt):Prop:=x.length = y.length ∧ ∃ c,∀ k,k < x.length → nth y k = nth x ((k + c) % x.length)
theorem Rot.refl (x:List Pt):Rot x x:=⟨rfl,0,fun k hk=>by rw [Nat.add_zero,Nat.mod_eq_of_lt hk]⟩
theorem Rot.trans {x y z:List Pt} (h:Rot x y) (h':Rot y z):Rot x z:=by
 obtain ⟨e1,c1,h1⟩:=h
 obtain ⟨e2,c2,h2⟩:=h'
 refine ⟨e1.trans e2,c1 + c2,fun k hk=>?_⟩
 rw [h2 k (by omega),h1 _ (by rw [← e1]; exact Nat.mod_lt _ (by omega)),← e1,Nat.mod_add_mod]
 congr 2; omega
theorem rot_of (l:List Pt) (c:Nat) (hc:c ≤ l.length):Rot l (l.drop c ++ l.take c):=⟨by simp; omega,c,fun k hk=>nth_rot hc hk⟩
theorem Rot.nil {x y:List Pt} (h:Rot x y):x = [] ↔ y = []:=by
 rw [← List.length_eq_zero_iff,← List.length_eq_zero_iff,h.1]
theorem cutN_flat (l:Li) (s:Int) (ps:List Pt):∀ n,cutN l s ps n = (List.range n).flatMap fun k=>cutF l s (nth ps k) (nxt ps k)
 | 0=>rfl
 | n + 1=>by rw [List.range_succ,List.flatMap_append,← cutN_flat l s ps n]; simp [cutN]
theorem range_rot {n c:Nat} (hc:c < n):(List.range n).map (fun k=>(k + c) % n) = (List.range n).drop c ++ (List.range n).take c:=by
 apply List.ext_getElem
 ·simp; omega
 ·intro k a b
  simp at a
  rw [List.getElem_map,List.getElem_range,List.getElem_append]
  split
  ·rename_i h
   simp at h
   rw [List.getElem_drop,List.getElem_range,Nat.mod_eq_of_lt (by omega)]; omega
  ·rename_i h
   simp at h
   rw [List.getElem_take,List.getElem_range,Nat.mod_eq_sub_mod (by omega),Nat.mod_eq_of_lt (by omega)]
   simp; omega
theorem Rot.cut {x y:List Pt} (h:Rot x y) (l:Li) (s:Int):Rot (cutN l s x x.length) (cutN l s y y.length):=by
 obtain ⟨e,c0,h0⟩:=h
 by_cases hn:x.length = 0
 ·rw [← e,hn]; exact Rot.refl _
 have hc:c0 % x.length < x.length:=Nat.mod_lt _ (by omega)
 generalize hcc:c0 % x.length = c at hc
 have h1:∀ k,k < x.length → nth y k = nth x ((k + c) % x.length):=by
  intro k hk
  rw [h0 k hk,← hcc,Nat.add_mod_mod]
 have hx:∀ k,k < x.length → nxt y k = nxt x ((k + c) % x.length):=by
  intro k hk
  unfold nxt
  rw [← e,h1 _ (Nat.mod_lt _ (by omega)),Nat.mod_add_mod,Nat.mod_add_mod]
  congr 2; omega
 rw [cutN_flat,cutN_flat,← e]
 have:(List.range x.length).flatMap (fun k=>cutF l s (nth y k) (nxt y k)) = ((List.range x.length).map (fun k=>(k + c) % x.length)).flatMap (fun k=>cutF l s (nth x k) (nxt x k)):=by
  rw [List.flatMap_map]
  unfold List.flatMap
  congr 1
  apply List.map_congr_left
  intro k hk
  have hk':=List.mem_range.1 hk
  rw [h1 k hk',hx k hk']
 rw [this,range_rot hc,List.flatMap_append]
 generalize hA:(List.drop c (List.range x.length)).flatMap (fun k=>cutF l s (nth x k) (nxt x k)) = A
 generalize hB:(List.take c (List.range x.length)).flatMap (fun k=>cutF l s (nth x k) (nxt x k)) = B
 have hfull:(List.range x.length).flatMap (fun k=>cutF l s (nth x k) (nxt x k)) = B ++ A:=by
  rw [← hA,← hB,← List.flatMap_append,List.take_append_drop]
 rw [hfull]
 have:=rot_of (B ++ A) B.length (by simp)
 simpa using this
theorem hasN_any (l:Li) (s:Int) (ps:List Pt):∀ n,hasN l s ps n = true ↔ ∃ k,k < n ∧ 0 < s * sd l (nth ps k)
 | 0=>by simp [hasN]
 | n + 1=>by
  simp only [hasN,Bool.or_eq_true,decide_eq_true_eq,hasN_any l s ps n]
  constructor
  ·rintro (⟨k,h1,h2⟩ | h)
   ·exact ⟨k,by omega,h2⟩
   ·exact ⟨n,by omega,h⟩
  ·rintro ⟨k,h1,h2⟩
   by_cases hk:k < n
   ·exact .inl ⟨k,hk,h2⟩
   ·obtain rfl:k = n:=by omega
    exact .inr h2
theorem Rot.symm {x y:List Pt} (h:Rot x y):Rot y x:=by
 obtain ⟨e,c0,h0⟩:=h
 by_cases hn:x.length = 0
 ·exact ⟨e.symm,0,fun k hk=>by omega⟩
 have hc:c0 % x.length < x.length:=Nat.mod_lt _ (by omega)
 refine ⟨e.symm,x.length - c0 % x.length,fun k hk=>?_⟩
 rw [← e] at hk ⊢
 rw [h0 _ (Nat.mod_lt _ (by omega)),Nat.mod_add_mod]
 have:(k + (x.length - c0 % x.length) + c0) % x.length = k:=by
  have h1:(k + (x.length - c0 % x.length) + c0 % x.length) = k + x.length:=by omega
  have h2:=Nat.add_mod_mod (k + (x.length - c0 % x.length)) c0 x.length
  rw [← h2,h1,Nat.add_mod_right,Nat.mod_eq_of_lt hk]
 rw [this]
theorem Rot.has {x y:List Pt} (h:Rot x y) (l:Li) (s:Int):hasN l s x x.length = true → hasN l s y y.length = true:=by
 rw [hasN_any,hasN_any]
 rintro ⟨k,hk,hp⟩
 obtain ⟨e,c,h'⟩:=h.symm
 have hk':k < y.length:=by have:=h.1; omega
 refine ⟨(k + c) % y.length,Nat.mod_lt _ (by omega), ?_⟩
 rw [← h' k hk']; exact hp
theorem Rot.half {x y:List Pt} (h:Rot x y) (l:Li) (s:Int):Rot (halfR l s x) (halfR l s y):=by
 unfold halfR
 by_cases hx:hasN l s x x.length = true
 ·rw [if_pos hx,if_pos (h.has l s hx)]; exact h.cut l s
 ·rw [if_neg hx,if_neg (fun hy=>hx (h.symm.has l s hy))]; exact Rot.refl _
end Go.Vai
