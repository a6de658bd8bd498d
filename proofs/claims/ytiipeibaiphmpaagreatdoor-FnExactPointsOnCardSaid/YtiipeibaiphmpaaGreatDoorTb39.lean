/- Texts of this claim: Zi1, Zi2. -/
import Derived.Test.YtiipeibaiphmpaaGreatDoorTb18
set_option linter.unusedVariables false
set_option linter.unusedSimpArgs false
set_option maxHeartbeats 4000000
namespace Go.Vai
theorem val_int (a b:Int):val ⟨a,b,0⟩ = ⟨(a:Rat),(b:Rat)⟩:=by apply Q2.ext' <;> simp [val,pr,pw] <;> grind
theorem sgn3 (x:Q2):Pos x ∨ x = 0 ∨ Pos (-x):=by
 have da:(0:Rat) < (x.a.den:Rat):=by have:=x.a.den_pos; exact_mod_cast this
 have db:(0:Rat) < (x.b.den:Rat):=by have:=x.b.den_pos; exact_mod_cast this
 have f:∀ a:Rat,a * (a.den:Rat) = (a.num:Rat):=fun a=>by
  have d:(a.den:Rat) ≠ 0:=by have:=a.den_nz; exact_mod_cast this
  have e:a = (a.num:Rat) / (a.den:Rat):=by
   conv=>lhs; rw [← Rat.num_divInt_den a]
   rw [Rat.divInt_eq_div]; rfl
  grind
 have fa:=f x.a
 have fb:=f x.b
 have hD:=Rat.mul_pos da db
 have eA:((x.a.num * x.b.den:Int):Rat) = x.a.den * x.b.den * x.a:=by push_cast; rw [← fa]; grind
 have eB:((x.b.num * x.a.den:Int):Rat) = x.a.den * x.b.den * x.b:=by push_cast; rw [← fb]; grind
 generalize ((x.a.den:Rat) * x.b.den) = D at *
 have hi:=Rat.inv_pos.2 hD
 have hDi:D⁻¹ * D = 1:=Rat.inv_mul_cancel _ (by grind)
 have c1:∀ y:Rat,D⁻¹ * (D * y) = y:=fun y=>by grind
 rcases sgnP_nsign ⟨x.a.num * x.b.den,x.b.num * x.a.den,0⟩ with ⟨-,h⟩ | ⟨-,h⟩ | ⟨-,h⟩ <;> rw [val_int,eA,eB] at h
 ·left
  have:=h.scale hi
  simp only [c1] at this
  exact this
 ·right; left
  have h1:D * x.a = 0:=congrArg Q2.a h
  have h2:D * x.b = 0:=congrArg Q2.b h
  have a0:x.a = 0:=by rw [← c1 x.a,h1]; grind
  have b0:x.b = 0:=by rw [← c1 x.b,h2]; grind
  exact Q2.ext' a0 b0
 ·right; right
  have:=h.scale hi
  have e:(⟨D⁻¹ * (-(⟨D * x.a,D * x.b⟩:Q2)).a,D⁻¹ * (-(⟨D * x.a,D * x.b⟩:Q2)).b⟩:Q2) = -x:=by
   apply Q2.ext'
   ·simp only [Q2.neg_a]; have:=c1 x.a; grind
   ·simp only [Q2.neg_b]; have:=c1 x.b; grind
  rwa [e] at this
theorem pos1:Pos (1:Q2):=pos_one (by simp <;> grind) (by simp <;> grind) (.inl (by simp <;> grind))
theorem Pos.of_times {x y:Q2} (h:Pos (x * y)) (hy:Pos y):Pos x:=by
 rcases sgn3 x with hx | rfl | hx
 ·exact hx
 ·exact (h.ne (by grind)).elim
 ·refine (h.anti ?_).elim
  have:=hx.times hy
  rwa [show -x * y = -(x * y) by grind] at this
def NN (x:Q2):Prop:=x = 0 ∨ Pos x
theorem NN.pos_add {x y:Q2} (h:NN x) (h':Pos y):Pos (x + y):=by
 rcases h with rfl | h
 ·rwa [show 0 + y = y by grind]
 ·exact h.add h'
theorem NN.mul {x y:Q2} (h:NN x) (h':NN y):NN (x * y):=by
 rcases h with rfl | h
 ·exact .inl (by grind)
 ·rcases h' with rfl | h'
  ·exact .inl (by grind)
  ·exact .inr (h.times h')
theorem NN.of_times {x y:Q2} (h:NN (x * y)) (hy:Pos y):NN x:=by
 rcases sgn3 x with hx | rfl | hx
 ·exact .inr hx
 ·exact .inl rfl
 ·have:=hx.times hy
  rw [show -x * y = -(x * y) by grind] at this
  rcases h with h | h
  ·rw [h] at this; exact (this.ne (by grind)).elim
  ·exact (h.anti this).elim
structure Fu where
 a:Q2
 b:Q2
 c:Q2
def Fu.ev (f:Fu) (p:Pt):Q2:=f.a * val p.x + f.b * val p.y - f.c
structure Hp where
 x:Q2
 y:Q2
 h:Q2
def Fu.hv (f:Fu) (w:Hp):Q2:=f.a * w.x + f.b * w.y - f.c * w.h
def crs (p q:Pt) (w:Hp):Q2:=(val p.x * val q.y - val p.y * val q.x) * w.h - (val p.x * w.y - val p.y * w.x) + (val q.x * w.y - val q.y * w.x)
def Rl (w:Hp) (p q:Pt):Prop:=Pos (crs p q w)
def Dn (f:Fu) (p:Pt):Prop:=NN (-(f.ev p))
theorem Rl.trans {w:Hp} {f:Fu} {p q r:Pt} (hh:Pos w.h) (hw:Pos (f.hv w)) (hp:Dn f p) (hq:Dn f q) (hr:Dn f r) (h1:Rl w p q) (h2:Rl w q r):Rl w p r:=by
 have key:∀ p,Dn f p → Pos (f.hv w - f.ev p * w.h):=fun p hp=>by
  have:=(NN.mul hp (.inr hh)).pos_add hw
  rwa [show -f.ev p * w.h + f.hv w = f.hv w - f.ev p * w.h by grind] at this
 have e:crs p r w * (f.hv w - f.ev q * w.h) = crs p q w * (f.hv w - f.ev r * w.h) + crs q r w * (f.hv w - f.ev p * w.h):=by
  unfold crs Fu.ev Fu.hv; grind
 have h:=(Pos.times h1 (key r hr)).add (Pos.times h2 (key p hp))
 rw [← e] at h
 exact h.of_times (key q hq)
theorem SgnP.opp {s:Int} {x:Q2} (h:SgnP s x):SgnP (-s) (-x):=by
 rcases h with ⟨rfl,h⟩ | ⟨rfl,rfl⟩ | ⟨rfl,h⟩
 ·exact .inr (.inr ⟨rfl,by rwa [show - -x = x by grind]⟩)
 ·exact .inr (.inl ⟨rfl,by grind⟩)
 ·exact .inl ⟨rfl,h⟩
def lf (l:Li) (s:Int):Fu:=if s = 1 then ⟨val (vec (l.dir + 4)).x,val (vec (l.dir + 4)).y,val l.off⟩ else ⟨-val (vec (l.dir + 4)).x,-val (vec (l.dir + 4)).y,-val l.off⟩
theorem lf_sgn {l:Li} {s:Int} {p:Pt} (hl:Lok l) (hp:PK p) (hs:s = 1 ∨ s = -1):SgnP (s * sd l p) ((lf l s).ev p):=by
 have h:=sd_sgn hl hp
 rcases hs with rfl | rfl
 ·rw [Int.one_mul]; exact h
 ·have e:(lf l (-1)).ev p = -(fv (l.dir + 4) p - val l.off):=by
   unfold lf Fu.ev fv
   rw [if_neg (by omega)]
   simp only; grind
  rw [e,show -1 * sd l p = -sd l p by omega]
  exact h.opp
end Go.Vai
namespace Go.Vai
theorem vec_opp {m:Int} (h0:0 ≤ m) (h1:m ≤ 15):val (vec ((m + 8) % 16)).x = -val (vec m).x ∧ val (vec ((m + 8) % 16)).y = -val (vec m).y:=by
 rw [← val_nneg,← val_nneg]
 rcases dir16 h0 h1 with rfl | rfl | rfl | rfl | rfl | rfl | rfl | rfl | rfl | rfl | rfl | rfl | rfl | rfl | rfl | rfl <;> exact ⟨rfl,rfl⟩
end Go.Vai
