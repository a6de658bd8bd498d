/- Texts of this claim: Zi1, Zi2. -/
import Derived.Test.YtmgdmldhgphnmaaGreatDoorUb18
set_option linter.unusedVariables false
set_option linter.unusedSimpArgs false
set_option maxHeartbeats 4000000
namespace Go.Vai
theorem val_int (a b:Int):val ⟨a,b,0⟩ = ⟨(a:Rat),(b:Rat)⟩:=by apply Q2.ext' <;> simp [val,pr,pw] <;> grind
theorem sgn3 (x:Q2):Pos x ∨ x = 0 ∨ Pos (-x):=by
 have da:(0:Rat) < (x.a.den:Rat):=by have:=x.a.den_pos; exact_mod_cast this
 have db:(0:Rat) < (x.b.den:Rat):=by have:=x.b.den_pos; exact_mod_cast this
 have f:∀ a:Rat,a * (a.den:Rat) = (a.num:Rat):=fun a=>by
  have d:(a.den:Rat) ≠ 0:=by have:=a.den_nz; exact_mod_cast this
  have e:a = (a.num:Rat) / (a.den:Rat):=by
   conv=>lhs; rw [← Rat.num_divInt_den a]
   rw [Rat.divInt_eq_div]; rfl
  grind
 have fa:=f x.a
 have fb:=f x.b
 have hD:=Rat.mul_pos da db
 have eA:((x.a.num * x.b.den:Int):Rat) = x.a.den * x.b.den * x.a:=by push_cast; rw [← fa]; grind
 have eB:((x.b.num * x.a.den:Int):Rat) = x.a.den * x.b.den * x.b:=by push_cast; rw [← fb]; grind
 generalize ((x.a.den:Rat) * x.b.den) = D at *
 have hi:=Rat.inv_pos.2 hD
 have hDi:D⁻¹ * D = 1:=Rat.inv_mul_cancel _ (by grind)
 have c1:∀ y:Rat,D⁻¹ * (D * y) = y:=fun y=>by grind
 rcases sgnP_nsign ⟨x.a.num * x.b.den,x.b.num * x.a.den,0⟩ with ⟨-,h⟩ | ⟨-,h⟩ | ⟨-,h⟩ <;> rw [val_int,eA,eB] at h
 ·left
  have:=h.scale hi
  simp only [c1] at this
  exact this
 ·right; left
  have h1:D * x.a = 0:=congrArg Q2.a h
  have h2:D * x.b = 0:=congrArg Q2.b h
  have a0:x.a = 0:=by rw [← c1 x.a,h1]; grind
  have b0:x.b = 0:=by rw [← c1 x.b,h2]; grind
  exact Q2.ext' a0 b0
 ·right; right
  have:=h.scale hi
  have e:(⟨D⁻¹ * (-(⟨D * x.a,D * x.b⟩:Q2)).a,D⁻¹ * (-(⟨D * x.a,D * x.b⟩:Q2)).b⟩:Q2) = -x:=by
   apply Q2.ext'
   ·simp only [Q2.neg_a]; have:=c1 x.a; grind
   ·simp only [Q2.neg_b]; have:=c1 x.b; grind
  rwa [e] at this
theorem pos1:Pos (1:Q2):=pos_one (by simp <;> grind) (by simp <;> grind) (.inl (by simp <;> grind))
theorem Pos.of_times {x y:Q2} (h:Pos (x * y)) (hy:Pos y):Pos x:=by
 rcases sgn3 x with hx | rfl | hx
 ·exact hx
 ·exact (h.ne (by grind)).elim
 ·refine (h.anti ?_).elim
  have:=hx.times hy
  rwa [show -x * y = -(x * y) by grind] at this
def NN (x:Q2):Prop:=x = 0 ∨ Pos x
theorem NN.pos_add {x y:Q2} (h:NN x) (h':Pos y):Pos (x + y):=by
 rcases h with rfl | h
 ·rwa [show 0 + y = y by grind]
 ·exact h.add h'
theorem NN.add {x y:Q2} (h:NN x) (h':NN y):NN (x + y):=by
 rcases h' with rfl | h'
 ·rwa [show x + 0 = x by grind]
 ·exact .inr (h.pos_add h')
theorem NN.mul {x y:Q2} (h:NN x) (h':NN y):NN (x * y):=by
 rcases h with rfl | h
 ·exact .inl (by grind)
 ·rcases h' with rfl | h'
  ·exact .inl (by grind)
  ·exact .inr (h.times h')
theorem NN.of_times {x y:Q2} (h:NN (x * y)) (hy:Pos y):NN x:=by
 rcases sgn3 x with hx | rfl | hx
 ·exact .inr hx
 ·exact .inl rfl
 ·have:=hx.times hy
  rw [show -x * y = -(x * y) by grind] at this
  rcases h with h | h
  ·rw [h] at this; exact (this.ne (by grind)).elim
  ·exact (h.anti this).elim
structure Fu where
 a:Q2
 b:Q2
 c:Q2
def Fu.ev (f:Fu) (p:Pt):Q2:=f.a * val p.x + f.b * val p.y - f.c
structure Hp where
 x:Q2
 y:Q2
 h:Q2
def Fu.hv (f:Fu) (w:Hp):Q2:=f.a * w.x + f.b * w.y - f.c * w.h
def crs (p q:Pt) (w:Hp):Q2:=(val p.x * val q.y - val p.y * val q.x) * w.h - (val p.x * w.y - val p.y * w.x) + (val q.x * w.y - val q.y * w.x)
theorem crs_self (p:Pt) (w:Hp):crs p p w = 0:=by unfold crs; grind
def Seg (f:Fu) (p q x:Pt):Prop:=val x.x * (f.ev p - f.ev q) = f.ev p * val q.x - f.ev q * val p.x ∧ val x.y * (f.ev p - f.ev q) = f.ev p * val q.y - f.ev q * val p.y
theorem Seg.ev {f:Fu} {p q x:Pt} (h:Seg f p q x) (g:Fu):g.ev x * (f.ev p - f.ev q) = f.ev p * g.ev q - f.ev q * g.ev p:=by
 obtain ⟨h1,h2⟩:=h
 generalize f.ev p = F at *
 generalize f.ev q = G at *
 unfold Fu.ev
 grind
theorem Seg.crs1 {f:Fu} {p q x:Pt} (h:Seg f p q x) (w:Hp):crs p x w * (f.ev p - f.ev q) = f.ev p * crs p q w:=by
 obtain ⟨h1,h2⟩:=h
 generalize f.ev p = F at *
 generalize f.ev q = G at *
 unfold crs
 grind
theorem Seg.crs2 {f:Fu} {p q x:Pt} (h:Seg f p q x) (w:Hp):crs x q w * (f.ev p - f.ev q) = -f.ev q * crs p q w:=by
 obtain ⟨h1,h2⟩:=h
 generalize f.ev p = F at *
 generalize f.ev q = G at *
 unfold crs
 grind
def Rl (w:Hp) (p q:Pt):Prop:=Pos (crs p q w)
theorem Rl.irr {w:Hp} {p:Pt} (h:Rl w p p):False:=Pos.ne h (crs_self p w)
def Dn (f:Fu) (p:Pt):Prop:=NN (-(f.ev p))
theorem Rl.trans {w:Hp} {f:Fu} {p q r:Pt} (hh:Pos w.h) (hw:Pos (f.hv w)) (hp:Dn f p) (hq:Dn f q) (hr:Dn f r) (h1:Rl w p q) (h2:Rl w q r):Rl w p r:=by
 have key:∀ p,Dn f p → Pos (f.hv w - f.ev p * w.h):=fun p hp=>by
  have:=(NN.mul hp (.inr hh)).pos_add hw
  rwa [show -f.ev p * w.h + f.hv w = f.hv w - f.ev p * w.h by grind] at this
 have e:crs p r w * (f.hv w - f.ev q * w.h) = crs p q w * (f.hv w - f.ev r * w.h) + crs q r w * (f.hv w - f.ev p * w.h):=by
  unfold crs Fu.ev Fu.hv; grind
 have h:=(Pos.times h1 (key r hr)).add (Pos.times h2 (key p hp))
 rw [← e] at h
 exact h.of_times (key q hq)
def chn (R:Pt → Pt → Prop):Pt → List Pt → Prop
 | _,[]=>True
 | a,b :: t=>R a b ∧ chn R b t
def lst:Pt → List Pt → Pt
 | a,[]=>a
 | _,b :: t=>lst b t
theorem chn_snoc {R:Pt → Pt → Prop} {b:Pt}:∀ {t:List Pt} {a:Pt},chn R a t → R (lst a t) b → chn R a (t ++ [b])
 | [],a,_,h=>⟨h,trivial⟩
 | c :: t,a,h,h'=>⟨h.1,chn_snoc (t:=t) h.2 h'⟩
theorem lst_snoc {b:Pt}:∀ {t:List Pt} {a:Pt},lst a (t ++ [b]) = b
 | [],a=>rfl
 | c :: t,a=>lst_snoc (t:=t) (a:=c)
theorem chn_get {R:Pt → Pt → Prop}:∀ {t:List Pt} {a:Pt},chn R a t → ∀ k,k + 1 < (a :: t).length → R (nth (a :: t) k) (nth (a :: t) (k + 1))
 | [],a,_,k,hk=>by simp at hk
 | b :: t,a,h,0,_=>h.1
 | b :: t,a,h,k + 1,hk=>by
  have:=chn_get (t:=t) (a:=b) h.2 k (by simpa using hk)
  simpa [nth] using this
theorem lst_get:∀ (t:List Pt) (a:Pt),lst a t = nth (a :: t) t.length
 | [],a=>rfl
 | b :: t,a=>by
  have:=lst_get t b
  simpa [nth,lst] using this
def Inn (w:Hp) (ps:List Pt):Prop:=∀ k,Rl w (pt ps k) (pt ps (k + 1))
theorem inn_of {w:Hp} {a:Pt} {t:List Pt} (h:chn (Rl w) a t) (h':Rl w (lst a t) a):Inn w (a :: t):=by
 intro k
 unfold pt
 have hm:k % (a :: t).length < (a :: t).length:=Nat.mod_lt _ (by simp)
 have e:(k + 1) % (a :: t).length = (k % (a :: t).length + 1) % (a :: t).length:=by rw [Nat.mod_add_mod]
 rw [e]
 generalize k % (a :: t).length = j at *
 by_cases hj:j + 1 < (a :: t).length
 ·rw [Nat.mod_eq_of_lt hj]
  exact chn_get h j hj
 ·have hj':j + 1 = (a :: t).length:=by omega
  rw [hj',Nat.mod_self]
  have:j = t.length:=by simp at hj'; omega
  rw [this,← lst_get]
  exact h'
theorem Inn.rot {w:Hp} {ps:List Pt} (h:Inn w ps) (h0:0 < ps.length):Inn w (rot0 ps):=by
 intro k
 unfold rot0
 rw [nth_rot' (least_le ps) k h0,nth_rot' (least_le ps) (k + 1) h0]
 have:=h (k + least ps)
 rwa [show k + 1 + least ps = k + least ps + 1 by omega]
def Iv (f:Fu) (w:Hp) (P0 c:Pt):List Pt → Prop
 | []=>c = P0 ∨ (Pos (-(f.ev P0)) ∧ Dn f c ∧ Rl w P0 c)
 | a :: t=>chn (Rl w) a t ∧ Rl w (lst a t) c ∧ (Pos (-(f.ev c)) → Dn f (lst a t)) ∧ (a = P0 ∨ (Pos (-(f.ev P0)) ∧ Dn f a ∧ Rl w P0 a))
theorem Iv.put {f:Fu} {w:Hp} {P0 p q:Pt} {o:List Pt} (h:Iv f w P0 p o) (hr:Rl w p q) (hd:Pos (-(f.ev q)) → Dn f p):Iv f w P0 q (o ++ [p]):=by
 cases o with
 | nil=>exact ⟨trivial,hr,hd,h⟩
 | cons a t =>
  obtain ⟨h1,h2,h3,h4⟩:=h
  refine ⟨chn_snoc h1 h2, ?_, ?_,h4⟩
  ·show Rl w (lst a (t ++ [p])) q
   rw [lst_snoc]; exact hr
  ·show Pos (-f.ev q) → Dn f (lst a (t ++ [p]))
   rw [lst_snoc]; exact hd
theorem Iv.pass {f:Fu} {w:Hp} {P0 p q:Pt} {o:List Pt} (hh:Pos w.h) (hw:Pos (f.hv w)) (h:Iv f w P0 p o) (hr:Rl w p q) (hp:Pos (-(f.ev p))) (hq:Dn f q):Iv f w P0 q o:=by
 cases o with
 | nil =>
  rcases h with rfl | ⟨h1,h2,h3⟩
  ·exact .inr ⟨hp,hq,hr⟩
  ·exact .inr ⟨h1,hq,Rl.trans hh hw (.inr h1) h2 hq h3 hr⟩
 | cons a t =>
  obtain ⟨h1,h2,h3,h4⟩:=h
  exact ⟨h1,Rl.trans hh hw (h3 hp) (.inr hp) hq h2 hr,fun _=>h3 hp,h4⟩
theorem Iv.close {f:Fu} {w:Hp} {P0 a:Pt} {t:List Pt} (hh:Pos w.h) (hw:Pos (f.hv w)) (h:Iv f w P0 P0 (a :: t)):Inn w (a :: t):=by
 obtain ⟨h1,h2,h3,h4⟩:=h
 refine inn_of h1 ?_
 rcases h4 with rfl | ⟨g1,g2,g3⟩
 ·exact h2
 ·exact Rl.trans hh hw (h3 g1) (.inr g1) g2 h2 g3
theorem SgnP.opp {s:Int} {x:Q2} (h:SgnP s x):SgnP (-s) (-x):=by
 rcases h with ⟨rfl,h⟩ | ⟨rfl,rfl⟩ | ⟨rfl,h⟩
 ·exact .inr (.inr ⟨rfl,by rwa [show - -x = x by grind]⟩)
 ·exact .inr (.inl ⟨rfl,by grind⟩)
 ·exact .inl ⟨rfl,h⟩
def lf (l:Li) (s:Int):Fu:=if s = 1 then ⟨val (vec (l.dir + 4)).x,val (vec (l.dir + 4)).y,val l.off⟩ else ⟨-val (vec (l.dir + 4)).x,-val (vec (l.dir + 4)).y,-val l.off⟩
theorem lf_sgn {l:Li} {s:Int} {p:Pt} (hl:Lok l) (hp:PK p) (hs:s = 1 ∨ s = -1):SgnP (s * sd l p) ((lf l s).ev p):=by
 have h:=sd_sgn hl hp
 rcases hs with rfl | rfl
 ·rw [Int.one_mul]; exact h
 ·have e:(lf l (-1)).ev p = -(fv (l.dir + 4) p - val l.off):=by
   unfold lf Fu.ev fv
   rw [if_neg (by omega)]
   simp only; grind
  rw [e,show -1 * sd l p = -sd l p by omega]
  exact h.opp
theorem fv0 (p:Pt):fv 0 p = val p.x:=by
 have e1:val (vec 0).x = 1:=by show val ⟨1,0,0⟩ = 1; apply Q2.ext' <;> simp [val,pr,pw] <;> grind
 have e2:val (vec 0).y = 0:=val_zero
 unfold fv; rw [e1,e2]; grind
theorem fv4 (p:Pt):fv 4 p = val p.y:=by
 have e1:val (vec 4).y = 1:=by show val ⟨1,0,0⟩ = 1; apply Q2.ext' <;> simp [val,pr,pw] <;> grind
 have e2:val (vec 4).x = 0:=val_zero
 unfold fv; rw [e1,e2]; grind
theorem seg_meet {K M:Nat} {l:Li} {s:Int} {ps:List Pt} (hg:Good K M l s ps) (hl:Lok l) (hs:s = 1 ∨ s = -1) (hp:∀ p ∈ ps,PK p) {k:Nat} (hk:k < ps.length) (h:s * sd l (nth ps k) * (s * sd l (nxt ps k)) < 0) :
  Seg (lf l s) (nth ps k) (nxt ps k) (meetP (sideL (nth ps k) (nxt ps k)) l):=by
 obtain ⟨g1,g2,-⟩:=hg k hk h
 have pp:=hp _ (nth_mem hk)
 have pq:PK (nxt ps k):=hp _ (nth_mem (Nat.mod_lt _ (by omega)))
 have hL:Lok (sideL (nth ps k) (nxt ps k)):=sideL_ok pp
 obtain ⟨o1,o2⟩:=side_ends pp pq g1
 obtain ⟨o3,o4⟩:=meet_on hL hl g2
 generalize meetP (sideL (nth ps k) (nxt ps k)) l = x at *
 generalize sideL (nth ps k) (nxt ps k) = L at *
 generalize nth ps k = p at *
 generalize nxt ps k = q at *
 have c0:=cross_ratio hL o1 o2 o3 0 (l.dir + 4)
 have c4:=cross_ratio hL o1 o2 o3 4 (l.dir + 4)
 rw [fv0,fv0,fv0] at c0
 rw [fv4,fv4,fv4] at c4
 have ox:fv (l.dir + 4) x = val l.off:=o4
 rw [ox] at c0 c4
 have ev:∀ p,(lf l s).ev p = fv (l.dir + 4) p - val l.off ∨ (lf l s).ev p = -(fv (l.dir + 4) p - val l.off):=fun p=>by
  rcases hs with rfl | rfl
  ·exact .inl rfl
  ·right
   unfold lf Fu.ev fv
   rw [if_neg (by omega)]
   simp only; grind
 unfold Seg
 rcases hs with rfl | rfl
 ·have e:∀ p,(lf l 1).ev p = fv (l.dir + 4) p - val l.off:=fun p=>rfl
  rw [e,e]
  generalize fv (l.dir + 4) p = F at *
  generalize fv (l.dir + 4) q = G at *
  exact ⟨by grind,by grind⟩
 ·have e:∀ p,(lf l (-1)).ev p = -(fv (l.dir + 4) p - val l.off):=fun p=>by
   unfold lf Fu.ev fv
   rw [if_neg (by omega)]
   simp only; grind
  rw [e,e]
  generalize fv (l.dir + 4) p = F at *
  generalize fv (l.dir + 4) q = G at *
  exact ⟨by grind,by grind⟩
theorem sg_prod {a b:Int} {x y:Q2} (ha:SgnP a x) (hb:SgnP b y) (h:a * b < 0):(a = 1 ∧ b = -1) ∨ (a = -1 ∧ b = 1):=by
 rcases ha.cases with rfl | rfl | rfl <;> rcases hb.cases with rfl | rfl | rfl <;> simp at h ⊢
theorem cutN_iv {K M:Nat} {l:Li} {s:Int} {ps:List Pt} {w:Hp} (hi:Inn w ps) (hh:Pos w.h) (hl:Lok l) (hs:s = 1 ∨ s = -1) (hp:∀ p ∈ ps,PK p) (hg:Good K M l s ps) (hw:Pos ((lf l s).hv w)) :
  ∀ k,k ≤ ps.length → Iv (lf l s) w (pt ps 0) (pt ps k) (cutN l s ps k)
 | 0,_=>.inl rfl
 | k + 1,hk=>by
  have ih:=cutN_iv hi hh hl hs hp hg hw k (by omega)
  have hr:=hi k
  have e1:pt ps k = nth ps k:=pt_lt (by omega)
  have e2:pt ps (k + 1) = nxt ps k:=rfl
  have s1:=lf_sgn (s:=s) hl (hp _ (nth_mem (show k < ps.length by omega))) hs
  have s2:=lf_sgn (s:=s) hl (hp _ (nxt_mem (show k < ps.length by omega))) hs
  have hx:=seg_meet hg hl hs hp (show k < ps.length by omega)
  rw [e1] at ih hr
  rw [e2] at hr ⊢
  show Iv _ _ _ _ (cutN l s ps k ++ cutF l s (nth ps k) (nxt ps k))
  unfold cutF
  generalize hX:meetP (sideL (nth ps k) (nxt ps k)) l = x at *
  generalize nth ps k = p at *
  generalize nxt ps k = q at *
  generalize s * sd l p = a at *
  generalize s * sd l q = b at *
  generalize lf l s = f at *
  by_cases hab:a * b < 0
  ·have hS:=hx hab
   rw [if_pos hab]
   have x0:∀ {d:Q2},f.ev p - f.ev q = d → (Pos d ∨ Pos (-d)) → f.ev x = 0:=fun {d} e hd=>by
    have:=hS.ev f
    rw [e] at this
    have z:f.ev x * d = 0:=by rw [this]; grind
    rcases sgn3 (f.ev x) with h | h | h
    ·rcases hd with hd | hd
     ·exact ((h.times hd).ne z).elim
     ·exact ((h.times hd).ne (by rw [show f.ev x * -d = -(f.ev x * d) by grind,z]; grind)).elim
    ·exact h
    ·rcases hd with hd | hd
     ·exact ((h.times hd).ne (by rw [show -f.ev x * d = -(f.ev x * d) by grind,z]; grind)).elim
     ·exact ((h.times hd).ne (by rw [show -f.ev x * -d = f.ev x * d by grind,z])).elim
   have c1:=hS.crs1 w
   have c2:=hS.crs2 w
   rcases sg_prod s1 s2 hab with ⟨ea,eb⟩ | ⟨ea,eb⟩
   ·-- down
    have p1:Pos (f.ev p):=s1.pos.1 ea
    have p2:Pos (-(f.ev q)):=s2.neg.1 eb
    have pd:Pos (f.ev p - f.ev q):=by have:=p1.add p2; rwa [show f.ev p + -f.ev q = f.ev p - f.ev q by grind] at this
    have z:=x0 rfl (.inl pd)
    have r1:Rl w p x:=Pos.of_times (by rw [c1]; exact p1.times hr) pd
    have r2:Rl w x q:=Pos.of_times (by rw [c2]; exact p2.times hr) pd
    rw [if_pos (by omega),← List.append_assoc]
    have dx:Dn f x:=.inl (by rw [z]; grind)
    exact (ih.put r1 fun hx=>(hx.ne (by rw [z]; grind)).elim).put r2 fun _=>dx
   ·-- up
    have p1:Pos (-(f.ev p)):=s1.neg.1 ea
    have p2:Pos (f.ev q):=s2.pos.1 eb
    have pd:Pos (-(f.ev p - f.ev q)):=by have:=p1.add p2; rwa [show -f.ev p + f.ev q = -(f.ev p - f.ev q) by grind] at this
    have z:=x0 rfl (.inr pd)
    have r1:Rl w p x:=Pos.of_times (y:=-(f.ev p - f.ev q)) (by rw [show crs p x w * -(f.ev p - f.ev q) = -(crs p x w * (f.ev p - f.ev q)) by grind,c1,show -(f.ev p * crs p q w) = -f.ev p * crs p q w by grind]; exact p1.times hr) pd
    have r2:Rl w x q:=Pos.of_times (y:=-(f.ev p - f.ev q)) (by rw [show crs x q w * -(f.ev p - f.ev q) = -(crs x q w * (f.ev p - f.ev q)) by grind,c2,show -(-f.ev q * crs p q w) = f.ev q * crs p q w by grind]; exact p2.times hr) pd
    rw [if_neg (by omega),List.nil_append]
    have dx:Dn f x:=.inl (by rw [z]; grind)
    exact (ih.pass hh hw r1 p1 dx).put r2 fun hq=>(hq.anti (by rwa [show - -f.ev q = f.ev q by grind])).elim
  ·rw [if_neg hab,List.append_nil]
   by_cases ha:0 ≤ a
   ·rw [if_pos ha]
    refine ih.put hr fun hq=>?_
    have eb:b = -1:=s2.neg.2 hq
    rcases s1 with ⟨e,h⟩ | ⟨e,h⟩ | ⟨e,h⟩
    ·rw [e,eb] at hab; simp at hab
    ·exact .inl (by rw [h]; grind)
    ·omega
   ·rw [if_neg ha,List.append_nil]
    rcases s1 with ⟨e,h⟩ | ⟨e,h⟩ | ⟨e,h⟩
    ·omega
    ·omega
    ·refine ih.pass hh hw hr h ?_
     rcases s2 with ⟨e',h'⟩ | ⟨e',h'⟩ | ⟨e',h'⟩
     ·rw [e,e'] at hab; simp at hab
     ·exact .inl (by rw [h']; grind)
     ·exact .inr h'
theorem Inn.has {l:Li} {s:Int} {ps:List Pt} {w:Hp} (hi:Inn w ps) (hn:0 < ps.length) (hh:Pos w.h) (hl:Lok l) (hs:s = 1 ∨ s = -1) (hp:∀ p ∈ ps,PK p) (hw:Pos ((lf l s).hv w)):hasN l s ps ps.length = true:=by
 refine Classical.byContradiction fun hno=>?_
 have hd:∀ k,Dn (lf l s) (pt ps k):=fun k=>by
  have hm:k % ps.length < ps.length:=Nat.mod_lt _ hn
  have sg:=lf_sgn (s:=s) hl (hp _ (nth_mem hm)) hs
  have:¬ 0 < s * sd l (nth ps (k % ps.length)):=fun h=>hno ((hasN_any l s ps ps.length).2 ⟨_,hm,h⟩)
  rcases sg with ⟨e,h⟩ | ⟨e,h⟩ | ⟨e,h⟩
  ·omega
  ·exact .inl (by unfold pt; rw [h]; grind)
  ·exact .inr h
 have key:∀ k,Rl w (pt ps 0) (pt ps (k + 1)):=fun k=>by
  induction k with
  | zero=>exact hi 0
  | succ k ih=>exact Rl.trans hh hw (hd _) (hd _) (hd _) ih (hi (k + 1))
 have:=key (ps.length - 1)
 rw [show ps.length - 1 + 1 = 0 + ps.length by omega,pt_per] at this
 exact this.irr
theorem cutN_keeps {l:Li} {s:Int} {ps:List Pt} {j:Nat} (hj:0 ≤ s * sd l (nth ps j)):∀ k,j < k → nth ps j ∈ cutN l s ps k
 | 0,h=>by omega
 | k + 1,h=>by
  simp only [cutN,List.mem_append]
  by_cases e:j = k
  ·subst e; right; unfold cutF; rw [if_pos hj]; simp
  ·exact .inl (cutN_keeps hj k (by omega))
theorem Inn.part {K M:Nat} {l:Li} {s:Int} {ps:List Pt} {w:Hp} (hi:Inn w ps) (hn:0 < ps.length) (hh:Pos w.h) (hl:Lok l) (hs:s = 1 ∨ s = -1) (hp:∀ p ∈ ps,PK p) (hg:Good K M l s ps) (hw:Pos ((lf l s).hv w)) :
  Inn w (partR l s ps) ∧ 0 < (partR l s ps).length:=by
 have hh':=hi.has hn hh hl hs hp hw
 have iv:=cutN_iv hi hh hl hs hp hg hw ps.length (Nat.le_refl _)
 obtain ⟨j,hj,hj'⟩:=(hasN_any l s ps ps.length).1 hh'
 have hm:=cutN_keeps (ps:=ps) (j:=j) (show 0 ≤ s * sd l (nth ps j) by omega) ps.length hj
 have e:pt ps ps.length = pt ps 0:=by have:=pt_per ps 0; rwa [Nat.zero_add] at this
 rw [e] at iv
 unfold partR
 rw [if_pos hh',rot0_len]
 cases hc:cutN l s ps ps.length with
 | nil=>rw [hc] at hm; simp at hm
 | cons a t =>
  rw [hc] at iv
  exact ⟨(iv.close hh hw).rot (by simp),by simp⟩
def sf (b:List Pt) (j:Nat):Fu:=lf (sideL (nth b j) (nxt b j)) (sideS (nth b j) (nxt b j))
end Go.Vai
namespace Go.Vai
structure Wt (S:Fu → Prop) (Q:List Pt) (w:Hp):Prop where
 h:Pos w.h
 on:∀ f,S f → Pos (f.hv w)
 up:∀ f,S f → ∀ p ∈ Q,NN (f.ev p)
theorem Wt.mono {S S':Fu → Prop} {Q Q':List Pt} {w:Hp} (h:Wt S Q w) (hs:∀ f,S' f → S f) (hq:∀ p ∈ Q',p ∈ Q):Wt S' Q' w :=
 ⟨h.h,fun f hf=>h.on f (hs f hf),fun f hf p hp=>h.up f (hs f hf) p (hq p hp)⟩
def mix (u:Q2) (p:Pt) (v:Q2) (w:Hp):Hp:=⟨u * val p.x + v * w.x,u * val p.y + v * w.y,u + v * w.h⟩
theorem mix_hv (f:Fu) (u:Q2) (p:Pt) (v:Q2) (w:Hp):f.hv (mix u p v w) = u * f.ev p + v * f.hv w:=by
 unfold mix Fu.hv Fu.ev; simp only; grind
theorem cutN_of {l:Li} {s:Int} {ps:List Pt} {p:Pt}:∀ k,k ≤ ps.length → p ∈ cutN l s ps k →
  ∃ j,j < ps.length ∧ ((p = nth ps j ∧ 0 ≤ s * sd l (nth ps j)) ∨ (p = meetP (sideL (nth ps j) (nxt ps j)) l ∧ s * sd l (nth ps j) * (s * sd l (nxt ps j)) < 0))
 | 0,_,h=>by simp [cutN] at h
 | k + 1,hk,h=>by
  simp only [cutN,List.mem_append] at h
  rcases h with h | h
  ·exact cutN_of k (by omega) h
  ·unfold cutF at h
   rcases List.mem_append.1 h with h | h
   ·split at h
    ·rename_i h0
     exact ⟨k,by omega,.inl ⟨List.mem_singleton.1 h,h0⟩⟩
    ·simp at h
   ·split at h
    ·rename_i h0
     exact ⟨k,by omega,.inr ⟨List.mem_singleton.1 h,h0⟩⟩
    ·simp at h
theorem Wt.part {K M:Nat} {S:Fu → Prop} {l:Li} {s:Int} {ps:List Pt} {w:Hp} (h:Wt S ps w) (hl:Lok l) (hs:s = 1 ∨ s = -1) (hp:∀ p ∈ ps,PK p) (hg:Good K M l s ps) (hne:0 < (partR l s ps).length) :
  ∃ w',Wt (fun f=>S f ∨ f = lf l s) (partR l s ps) w':=by
 have hh:hasN l s ps ps.length = true:=by
  unfold partR at hne
  split at hne
  ·assumption
  ·simp at hne
 obtain ⟨k,hk,hk'⟩:=(hasN_any l s ps ps.length).1 hh
 have vm:=nth_mem hk
 have hv:Pos ((lf l s).ev (nth ps k)):=by
  rcases lf_sgn (s:=s) hl (hp _ vm) hs with ⟨e,h⟩ | ⟨e,h⟩ | ⟨e,h⟩
  ·exact h
  ·omega
  ·omega
 have up:∀ f,S f ∨ f = lf l s → ∀ p ∈ partR l s ps,NN (f.ev p):=by
  intro f hf p hp'
  have hp'':p ∈ cutN l s ps ps.length:=by
   unfold partR at hp'; rw [if_pos hh] at hp'; exact rot0_mem hp'
  obtain ⟨j,hj,⟨rfl,h0⟩ | ⟨rfl,h0⟩⟩:=cutN_of _ (Nat.le_refl _) hp''
  ·rcases hf with hf | rfl
   ·exact h.up f hf _ (nth_mem hj)
   ·rcases lf_sgn (s:=s) hl (hp _ (nth_mem hj)) hs with ⟨e,h⟩ | ⟨e,h⟩ | ⟨e,h⟩
    ·exact .inr h
    ·exact .inl h
    ·omega
  ·have hS:=seg_meet hg hl hs hp hj h0
   have s1:=lf_sgn (s:=s) hl (hp _ (nth_mem hj)) hs
   have s2:=lf_sgn (s:=s) hl (hp _ (nxt_mem hj)) hs
   have hev:=hS.ev f
   rcases sg_prod s1 s2 h0 with ⟨ea,eb⟩ | ⟨ea,eb⟩
   ·have p1:Pos ((lf l s).ev (nth ps j)):=s1.pos.1 ea
    have p2:Pos (-((lf l s).ev (nxt ps j))):=s2.neg.1 eb
    refine NN.of_times (y:=(lf l s).ev (nth ps j) - (lf l s).ev (nxt ps j)) ?_ (by have:=p1.add p2; rwa [show (lf l s).ev (nth ps j) + -(lf l s).ev (nxt ps j) = (lf l s).ev (nth ps j) - (lf l s).ev (nxt ps j) by grind] at this)
    rw [hev]
    rcases hf with hf | rfl
    ·have:=(NN.mul (.inr p1) (h.up f hf _ (nxt_mem hj))).add (NN.mul (.inr p2) (h.up f hf _ (nth_mem hj)))
     rwa [show (lf l s).ev (nth ps j) * f.ev (nxt ps j) + -(lf l s).ev (nxt ps j) * f.ev (nth ps j) = (lf l s).ev (nth ps j) * f.ev (nxt ps j) - (lf l s).ev (nxt ps j) * f.ev (nth ps j) by grind] at this
    ·exact .inl (by grind)
   ·have p1:Pos (-((lf l s).ev (nth ps j))):=s1.neg.1 ea
    have p2:Pos ((lf l s).ev (nxt ps j)):=s2.pos.1 eb
    refine NN.of_times (y:=-((lf l s).ev (nth ps j) - (lf l s).ev (nxt ps j))) ?_ (by have:=p1.add p2; rwa [show -(lf l s).ev (nth ps j) + (lf l s).ev (nxt ps j) = -((lf l s).ev (nth ps j) - (lf l s).ev (nxt ps j)) by grind] at this)
    generalize meetP (sideL (nth ps j) (nxt ps j)) l = x at *
    rw [show f.ev x * -((lf l s).ev (nth ps j) - (lf l s).ev (nxt ps j)) = -(f.ev x * ((lf l s).ev (nth ps j) - (lf l s).ev (nxt ps j))) by grind,hev]
    rcases hf with hf | rfl
    ·have:=(NN.mul (.inr p1) (h.up f hf _ (nxt_mem hj))).add (NN.mul (.inr p2) (h.up f hf _ (nth_mem hj)))
     rwa [show -(lf l s).ev (nth ps j) * f.ev (nxt ps j) + (lf l s).ev (nxt ps j) * f.ev (nth ps j) = -((lf l s).ev (nth ps j) * f.ev (nxt ps j) - (lf l s).ev (nxt ps j) * f.ev (nth ps j)) by grind] at this
    ·exact .inl (by grind)
 have fin:∀ u v:Q2,Pos u → Pos v → Pos (u * (lf l s).ev (nth ps k) + v * (lf l s).hv w) → ∃ w',Wt (fun f=>S f ∨ f = lf l s) (partR l s ps) w':=fun u v hu hv' hgo =>
  ⟨mix u (nth ps k) v w,show Pos (u + v * w.h) from hu.add (hv'.times h.h),fun f hf=>by
   rw [mix_hv]
   rcases hf with hf | rfl
   ·exact (NN.mul (.inr hu) (h.up f hf _ vm)).pos_add (hv'.times (h.on f hf))
   ·exact hgo,up⟩
 rcases sgn3 ((lf l s).hv w) with h' | h' | h'
 ·exact fin 1 1 pos1 pos1 (by have:=hv.add h'; rwa [show 1 * (lf l s).ev (nth ps k) + 1 * (lf l s).hv w = (lf l s).ev (nth ps k) + (lf l s).hv w by grind])
 ·exact fin 1 1 pos1 pos1 (by rw [h']; rwa [show 1 * (lf l s).ev (nth ps k) + 1 * 0 = (lf l s).ev (nth ps k) by grind])
 ·refine fin (-((lf l s).hv w) + -((lf l s).hv w)) ((lf l s).ev (nth ps k)) (h'.add h') hv ?_
  have:=h'.times hv
  rwa [show (-((lf l s).hv w) + -((lf l s).hv w)) * (lf l s).ev (nth ps k) + (lf l s).ev (nth ps k) * (lf l s).hv w = -(lf l s).hv w * (lf l s).ev (nth ps k) by grind]
theorem vec_opp {m:Int} (h0:0 ≤ m) (h1:m ≤ 15):val (vec ((m + 8) % 16)).x = -val (vec m).x ∧ val (vec ((m + 8) % 16)).y = -val (vec m).y:=by
 rw [← val_nneg,← val_nneg]
 rcases dir16 h0 h1 with rfl | rfl | rfl | rfl | rfl | rfl | rfl | rfl | rfl | rfl | rfl | rfl | rfl | rfl | rfl | rfl <;> exact ⟨rfl,rfl⟩
end Go.Vai
