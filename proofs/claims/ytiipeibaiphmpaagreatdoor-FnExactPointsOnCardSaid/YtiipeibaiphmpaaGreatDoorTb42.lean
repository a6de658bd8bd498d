/- Texts of this claim: Zq1, Zq2, Zq3, Zq4, Zq5, Zq8. -/
import Derived.Test.YtiipeibaiphmpaaGreatDoorTb39
import Derived.Test.YtiipeibaiphmpaaGreatDoorTb18
import Derived.Test.YtiipeibaiphmpaaGreatDoorTb20
set_option linter.unusedVariables false
set_option linter.unusedSimpArgs false
set_option maxHeartbeats 4000000
namespace Go.Vai
def ornt (a b c:Pt):Int:=nsign (pcross (pminus b a) (pminus c a))
def dsI (x p q:Pt):Int:=nsign (ndot (pminus x p) (pminus x q))
def isOnB (p q x:Pt):Bool:=decide (ornt p q x = 0) && decide (dsI x p q ≤ 0)
def touchB (p q x y:Pt):Bool:=(isOnB p q x || (isOnB p q y || (isOnB x y p || isOnB x y q))) || (decide (ornt p q x * ornt p q y < 0) && decide (ornt x y p * ornt x y q < 0))
def meetB (a b x y:Pt) (one:Bool):Bool :=
 if dirR (pminus b a) % 8 ≠ dirR (pminus y x) % 8 then !one && (decide (sd (sideL a b) x * sd (sideL a b) y ≤ 0) && decide (sd (sideL x y) a * sd (sideL x y) b ≤ 0))
 else if sd (sideL a b) x ≠ 0 then false
 else
  let D:=vec (dirR (pminus b a))
  let c:=nsign (nsub (nleast (ndot D b) (nmost (ndot D x) (ndot D y))) (nmost (ndot D a) (nleast (ndot D x) (ndot D y))))
  decide (0 < c) || (decide (c = 0) && !one)
theorem SgnP.mul {s t:Int} {x y:Q2} (h:SgnP s x) (h':SgnP t y):SgnP (s * t) (x * y):=by
 rcases h with ⟨rfl,h⟩ | ⟨rfl,rfl⟩ | ⟨rfl,h⟩
 ·rcases h' with ⟨rfl,h'⟩ | ⟨rfl,rfl⟩ | ⟨rfl,h'⟩
  ·exact .inl ⟨rfl,h.times h'⟩
  ·exact .inr (.inl ⟨rfl,by grind⟩)
  ·exact .inr (.inr ⟨rfl,by have:=h.times h'; rwa [show x * -y = -(x * y) by grind] at this⟩)
 ·exact .inr (.inl ⟨by simp,by grind⟩)
 ·rcases h' with ⟨rfl,h'⟩ | ⟨rfl,rfl⟩ | ⟨rfl,h'⟩
  ·exact .inr (.inr ⟨rfl,by have:=h.times h'; rwa [show -x * y = -(x * y) by grind] at this⟩)
  ·exact .inr (.inl ⟨rfl,by grind⟩)
  ·exact .inl ⟨rfl,by have:=h.times h'; rwa [show -x * -y = x * y by grind] at this⟩
theorem SgnP.zero {x:Q2} (h:SgnP 0 x):x = 0:=by
 rcases h with ⟨e,-⟩ | ⟨-,h⟩ | ⟨e,-⟩
 ·exact absurd e (by decide)
 ·exact h
 ·exact absurd e (by decide)
theorem SgnP.scaleL {s:Int} {x u:Q2} (h:SgnP s x) (hu:Pos u):SgnP s (u * x):=by
 have:=SgnP.mul (s:=1) (x:=u) (.inl ⟨rfl,hu⟩) h
 rwa [Int.one_mul] at this
theorem sgn_same {s t:Int} {x y u v:Q2} (h:SgnP s x) (h':SgnP t y) (hu:Pos u) (hv:Pos v) (e:u * x = v * y):s = t:=by
 have h1:=h.scaleL hu
 have h2:=h'.scaleL hv
 rw [e] at h1
 exact h1.eq h2 rfl
structure Dseg (a b:Pt) (vx vy:Q2):Prop where
 par:vx * (val b.y - val a.y) = vy * (val b.x - val a.x)
 fwd:Pos (vx * (val b.x - val a.x) + vy * (val b.y - val a.y))
 sq:Pos (vx * vx + vy * vy)
 side:∀ p,PK p → SgnP (sideS a b * sd (sideL a b) p) (vx * (val p.y - val a.y) - vy * (val p.x - val a.x))
theorem pos_sq {d:Int} (h0:0 ≤ d) (h1:d ≤ 15):Pos (val (vec d).x * val (vec d).x + val (vec d).y * val (vec d).y):=by
 have hsq:=nn_mul (sq_plain h0 h1) pos1
 have hv:=vec_k d
 rw [val_nmul (by decide) (ndot_k hv hv),val_ndot hv hv] at hsq
 have hc:Pos (val wN):=by
  show Pos (val ⟨1,1,0⟩)
  rw [val_int]
  exact pos_one (by simp <;> grind) (by simp <;> grind) (.inl (by simp <;> grind))
 refine Pos.of_times (y:=val wN) ?_ hc
 rwa [show val wN * (val (vec d).x * val (vec d).x + val (vec d).y * val (vec d).y) * 1 = (val (vec d).x * val (vec d).x + val (vec d).y * val (vec d).y) * val wN by grind] at hsq
theorem dseg {a b:Pt} (ha:PK a) (hb:PK b) (hd:0 ≤ dirR (pminus b a)):Dseg a b (val (vec (dirR (pminus b a))).x) (val (vec (dirR (pminus b a))).y):=by
 have h1:dirR (pminus b a) ≤ 15:=(dirR_range _).2
 have hw:PK (pminus b a):=pk_minus hb
 have wx:val (pminus b a).x = val b.x - val a.x:=val_nsub hb.1 ha.1
 have wy:val (pminus b a).y = val b.y - val a.y:=val_nsub hb.2 ha.2
 have z:=dir_zero (w:=pminus b a) (t:=dirR (pminus b a)) (m:=(dirR (pminus b a) + 12) % 16) hw hd h1 (by omega) (by omega) (by omega) rfl
 have f:=dir_pos (w:=pminus b a) (t:=dirR (pminus b a)) (m:=dirR (pminus b a)) hw hd h1 hd h1 (by omega) rfl
 have hvt:=vec_turn (d:=(dirR (pminus b a) + 12) % 16) (by omega) (by omega)
 rw [show ((dirR (pminus b a) + 12) % 16 + 4) % 16 = dirR (pminus b a) by omega] at hvt
 have hvt2:=vec_turn hd h1
 rw [val_ndot (vec_k _) hw,wx,wy] at z f
 have hsq:=pos_sq hd h1
 refine ⟨?_,f,hsq,fun p hp=>?_⟩
 ·rw [hvt]
  simp only [val_nneg]
  generalize val (vec ((dirR (pminus b a) + 12) % 16)).x = ux at *
  generalize val (vec ((dirR (pminus b a) + 12) % 16)).y = uy at *
  grind
 ·have hl:=lf_sgn (s:=sideS a b) (sideL_ok (q:=b) ha) hp (sideS_or a b)
  suffices e:val (vec (dirR (pminus b a))).x * (val p.y - val a.y) - val (vec (dirR (pminus b a))).y * (val p.x - val a.x) = (lf (sideL a b) (sideS a b)).ev p by
   rw [e]; exact hl
  have hd8:(sideL a b).dir = dirR (pminus b a) % 8:=rfl
  have ho:val (sideL a b).off = fv (dirR (pminus b a) % 8 + 4) a:=val_ndot (vec_k _) ha
  unfold lf
  rw [ho,hd8]
  unfold sideS
  generalize dirR (pminus b a) = d at *
  by_cases h8:d < 8
  ·rw [if_pos h8,if_pos rfl,show d % 8 + 4 = (d + 4) % 16 by omega,hvt2]
   unfold Fu.ev fv
   rw [hvt2]
   simp only [val_nneg]; grind
  ·rw [if_neg h8,if_neg (by omega)]
   have hv:=vec_opp (m:=d % 8 + 4) (by omega) (by omega)
   rw [show (d % 8 + 4 + 8) % 16 = (d + 4) % 16 by omega,hvt2] at hv
   simp only [val_nneg] at hv
   unfold Fu.ev fv
   simp only
   generalize val (vec (d % 8 + 4)).x = ux at *
   generalize val (vec (d % 8 + 4)).y = uy at *
   grind
theorem or_val {a b c:Pt} (ha:PK a) (hb:PK b) (hc:PK c):SgnP (ornt a b c) ((val b.x - val a.x) * (val c.y - val a.y) - (val b.y - val a.y) * (val c.x - val a.x)):=by
 have:=sgnP_nsign (pcross (pminus b a) (pminus c a))
 rw [val_pcross (pk_minus hb) (pk_minus hc)] at this
 rwa [show val (pminus b a).x = val b.x - val a.x from val_nsub hb.1 ha.1,show val (pminus b a).y = val b.y - val a.y from val_nsub hb.2 ha.2,
  show val (pminus c a).x = val c.x - val a.x from val_nsub hc.1 ha.1,show val (pminus c a).y = val c.y - val a.y from val_nsub hc.2 ha.2] at this
theorem ds_val {x p q:Pt} (hx:PK x) (hp:PK p) (hq:PK q):SgnP (dsI x p q) ((val x.x - val p.x) * (val x.x - val q.x) + (val x.y - val p.y) * (val x.y - val q.y)):=by
 have:=sgnP_nsign (ndot (pminus x p) (pminus x q))
 rw [val_ndot (pk_minus hx) (pk_minus hx)] at this
 rwa [show val (pminus x p).x = val x.x - val p.x from val_nsub hx.1 hp.1,show val (pminus x p).y = val x.y - val p.y from val_nsub hx.2 hp.2,
  show val (pminus x q).x = val x.x - val q.x from val_nsub hx.1 hq.1,show val (pminus x q).y = val x.y - val q.y from val_nsub hx.2 hq.2] at this
theorem or_sd {a b c:Pt} (ha:PK a) (hb:PK b) (hc:PK c) (hd:0 ≤ dirR (pminus b a)):ornt a b c = sideS a b * sd (sideL a b) c:=by
 have h:=dseg ha hb hd
 refine sgn_same (or_val ha hb hc) (h.side c hc) h.sq h.fwd ?_
 have:=h.par
 generalize val (vec (dirR (pminus b a))).x = vx at *
 generalize val (vec (dirR (pminus b a))).y = vy at *
 grind
theorem sideS_sq (a b:Pt):sideS a b * sideS a b = 1:=by
 rcases sideS_or a b with e | e <;> rw [e] <;> rfl
theorem or_prod {a b x y:Pt} (ha:PK a) (hb:PK b) (hx:PK x) (hy:PK y) (hd:0 ≤ dirR (pminus b a)):ornt a b x * ornt a b y = sd (sideL a b) x * sd (sideL a b) y:=by
 rw [or_sd ha hb hx hd,or_sd ha hb hy hd]
 have:=sideS_sq a b
 rw [show sideS a b * sd (sideL a b) x * (sideS a b * sd (sideL a b) y) = sideS a b * sideS a b * (sd (sideL a b) x * sd (sideL a b) y) by
  rw [Int.mul_assoc,Int.mul_assoc,Int.mul_left_comm (sd (sideL a b) x)],this,Int.one_mul]
theorem or_zero {a b x:Pt} (ha:PK a) (hb:PK b) (hx:PK x) (hd:0 ≤ dirR (pminus b a)):ornt a b x = 0 ↔ sd (sideL a b) x = 0:=by
 rw [or_sd ha hb hx hd]
 rcases sideS_or a b with e | e <;> rw [e] <;> omega
theorem cross_ne {d e:Int} (h0:0 ≤ d) (h1:d ≤ 15) (g0:0 ≤ e) (g1:e ≤ 15) (hne:d % 8 ≠ e % 8) :
  Pos (val (vec d).x * val (vec e).y - val (vec d).y * val (vec e).x) ∨ Pos (-(val (vec d).x * val (vec e).y - val (vec d).y * val (vec e).x)):=by
 have key:∀ i ∈ List.range 16,∀ k ∈ List.range 16,i % 8 ≠ k % 8 → nsign (pcross (vec (i:Nat)) (vec (k:Nat))) ≠ 0:=by decide +kernel
 have hk:=key d.toNat (by simp; omega) e.toNat (by simp; omega) (by omega)
 rw [show ((d.toNat:Nat):Int) = d by omega,show ((e.toNat:Nat):Int) = e by omega] at hk
 have hs:=sgnP_nsign (pcross (vec d) (vec e))
 rw [val_pcross (vec_k d) (vec_k e)] at hs
 rcases hs with ⟨-,h⟩ | ⟨h,-⟩ | ⟨-,h⟩
 ·exact .inl h
 ·exact (hk h).elim
 ·exact .inr h
theorem sq_pos {x:Q2} (h:Pos x ∨ Pos (-x)):Pos (x * x):=by
 rcases h with h | h
 ·exact h.times h
 ·have:=h.times h
  rwa [show -x * -x = x * x by grind] at this
theorem ds_cross {a b x y z:Pt} (ha:PK a) (hb:PK b) (hx:PK x) (hy:PK y) (hz:PK z) (hd:0 ≤ dirR (pminus b a)) (he:0 ≤ dirR (pminus y x)) (hne:dirR (pminus b a) % 8 ≠ dirR (pminus y x) % 8)
  (h1:sd (sideL a b) z = 0) (h2:sd (sideL x y) z = 0):dsI z a b = sd (sideL x y) a * sd (sideL x y) b:=by
 have A:=dseg ha hb hd
 have B:=dseg hx hy he
 have G:=cross_ne hd (dirR_range _).2 he (dirR_range _).2 hne
 have az:=A.side z hz
 have bz:=B.side z hz
 rw [h1,Int.mul_zero] at az
 rw [h2,Int.mul_zero] at bz
 have az0:=az.zero
 have bz0:=bz.zero
 have hp:=SgnP.mul (B.side a ha) (B.side b hb)
 rw [show sideS x y * sd (sideL x y) a * (sideS x y * sd (sideL x y) b) = sideS x y * sideS x y * (sd (sideL x y) a * sd (sideL x y) b) by
  rw [Int.mul_assoc,Int.mul_assoc,Int.mul_left_comm (sd (sideL x y) a)],sideS_sq,Int.one_mul] at hp
 refine sgn_same (ds_val hz ha hb) hp (sq_pos G) A.sq ?_
 have p1:=A.par
 clear az bz hp G
 generalize val (vec (dirR (pminus b a))).x = vx at *
 generalize val (vec (dirR (pminus b a))).y = vy at *
 generalize val (vec (dirR (pminus y x))).x = ux at *
 generalize val (vec (dirR (pminus y x))).y = uy at *
 have c1:vx * (val z.y - val a.y) = vy * (val z.x - val a.x):=by grind
 have c2:vx * (val z.y - val b.y) = vy * (val z.x - val b.x):=by grind
 have g1:ux * (val a.y - val x.y) - uy * (val a.x - val x.x) = uy * (val z.x - val a.x) - ux * (val z.y - val a.y):=by grind
 have g2:ux * (val b.y - val x.y) - uy * (val b.x - val x.x) = uy * (val z.x - val b.x) - ux * (val z.y - val b.y):=by grind
 rw [g1,g2]
 generalize val z.x - val a.x = p at *
 generalize val z.y - val a.y = q at *
 generalize val z.x - val b.x = r at *
 generalize val z.y - val b.y = s at *
 clear A B p1 g1 g2 az0 bz0
 have e1:(vx * uy - vy * ux) * (vx * uy - vy * ux) * (p * r + q * s) = (vx * vx + vy * vy) * ((uy * p - ux * q) * (uy * r - ux * s)):=by grind
 exact e1
end Go.Vai
set_option linter.unusedSectionVars false
namespace Go.Vai
def apartB (cf ct df dt:Int) (a b x y:Pt):Bool :=
 if cf = df then !isOnB a b y && !isOnB x y b
 else if ct = dt then !isOnB a b x && !isOnB x y a
 else if cf = dt then !isOnB a b x && !isOnB x y b
 else if ct = df then !isOnB a b y && !isOnB x y a
 else !touchB a b x y
def shareB (cf ct df dt:Int):Bool:=decide (cf = df) || (decide (cf = dt) || (decide (ct = df) || decide (ct = dt)))
theorem sd_ends {x y:Pt} (hx:PK x) (hy:PK y) (he:0 ≤ dirR (pminus y x)):sd (sideL x y) x = 0 ∧ sd (sideL x y) y = 0:=by
 obtain ⟨o1,o2⟩:=side_ends hx hy he
 exact ⟨sd_on (sideL_ok hx) hx o1,sd_on (sideL_ok hx) hy o2⟩
section
variable {a b x y:Pt} (ha:PK a) (hb:PK b) (hx:PK x) (hy:PK y) (hd:0 ≤ dirR (pminus b a)) (he:0 ≤ dirR (pminus y x))
include ha hb hx hy hd he
theorem two_on (hne:dirR (pminus b a) % 8 ≠ dirR (pminus y x) % 8) (h1:sd (sideL a b) x = 0) (h2:sd (sideL a b) y = 0):False:=by
 have A:=dseg ha hb hd
 have B:=dseg hx hy he
 have G:=cross_ne hd (dirR_range _).2 he (dirR_range _).2 hne
 have ax:=A.side x hx
 have ay:=A.side y hy
 rw [h1,Int.mul_zero] at ax
 rw [h2,Int.mul_zero] at ay
 have ax0:=ax.zero
 have ay0:=ay.zero
 have p:=B.par
 have f:=B.fwd
 clear ax ay A B
 generalize val (vec (dirR (pminus b a))).x = vx at *
 generalize val (vec (dirR (pminus b a))).y = vy at *
 generalize val (vec (dirR (pminus y x))).x = ux at *
 generalize val (vec (dirR (pminus y x))).y = uy at *
 have z:(vx * uy - vy * ux) * (ux * (val y.x - val x.x) + uy * (val y.y - val x.y)) = 0:=by
  have c:vx * (val y.y - val x.y) = vy * (val y.x - val x.x):=by grind
  clear ax0 ay0 G f
  generalize val y.x - val x.x = r at *
  generalize val y.y - val x.y = s at *
  grind
 rcases G with G | G
 ·exact (G.times f).ne z
 ·refine (G.times f).ne ?_
  rw [show -(vx * uy - vy * ux) * (ux * (val y.x - val x.x) + uy * (val y.y - val x.y)) = -((vx * uy - vy * ux) * (ux * (val y.x - val x.x) + uy * (val y.y - val x.y))) by grind,z]
  grind
theorem isOn_np (hne:dirR (pminus b a) % 8 ≠ dirR (pminus y x) % 8) {z:Pt} (hz:PK z) (h2:sd (sideL x y) z = 0):isOnB a b z = (decide (sd (sideL a b) z = 0) && decide (sd (sideL x y) a * sd (sideL x y) b ≤ 0)):=by
 unfold isOnB
 by_cases h1:sd (sideL a b) z = 0
 ·rw [ds_cross ha hb hx hy hz hd he hne h1 h2,decide_eq_true h1,decide_eq_true ((or_zero ha hb hz hd).2 h1)]
 ·rw [decide_eq_false h1,decide_eq_false (fun h=>h1 ((or_zero ha hb hz hd).1 h))]; rfl
theorem par_vec (heq:dirR (pminus b a) % 8 = dirR (pminus y x) % 8) :
  (val (vec (dirR (pminus y x))).x = val (vec (dirR (pminus b a))).x ∧ val (vec (dirR (pminus y x))).y = val (vec (dirR (pminus b a))).y) ∨
  (val (vec (dirR (pminus y x))).x = -val (vec (dirR (pminus b a))).x ∧ val (vec (dirR (pminus y x))).y = -val (vec (dirR (pminus b a))).y):=by
 have h1:=(dirR_range (pminus b a)).2
 have h2:=(dirR_range (pminus y x)).2
 generalize dirR (pminus b a) = d at *
 generalize dirR (pminus y x) = e at *
 by_cases h:e = d
 ·subst h; exact .inl ⟨rfl,rfl⟩
 ·have:=vec_opp hd h1
  rw [show (d + 8) % 16 = e by omega] at this
  exact .inr this
theorem par_y (heq:dirR (pminus b a) % 8 = dirR (pminus y x) % 8):sd (sideL a b) y = sd (sideL a b) x:=by
 have A:=dseg ha hb hd
 have B:=dseg hx hy he
 have V:=par_vec ha hb hx hy hd he heq
 have ax:=A.side x hx
 have ay:=A.side y hy
 have p:=B.par
 have e:=ay.eq ax (by
  clear ax ay A B
  rcases V with ⟨e1,e2⟩ | ⟨e1,e2⟩ <;> rw [e1,e2] at p <;> grind)
 rcases sideS_or a b with s | s <;> rw [s] at e <;> omega
theorem par_a (heq:dirR (pminus b a) % 8 = dirR (pminus y x) % 8):(sd (sideL x y) a = 0 ↔ sd (sideL a b) x = 0) ∧ sd (sideL x y) b = sd (sideL x y) a:=by
 refine ⟨?_,par_y hx hy ha hb he hd heq.symm⟩
 have A:=dseg ha hb hd
 have B:=dseg hx hy he
 have V:=par_vec ha hb hx hy hd he heq
 have ax:=A.side x hx
 have ba:=B.side a ha
 have key:sideS x y * sd (sideL x y) a = sideS a b * sd (sideL a b) x ∨ sideS x y * sd (sideL x y) a = -(sideS a b * sd (sideL a b) x):=by
  clear A B
  rcases V with ⟨e1,e2⟩ | ⟨e1,e2⟩ <;> rw [e1,e2] at ba
  ·right
   exact ba.eq ax.opp (by grind)
  ·left
   exact ba.eq ax (by grind)
 rcases sideS_or a b with s | s <;> rcases sideS_or x y with t | t <;> rw [s,t] at key <;> omega
end
def sgI (u v:Int):Int:=if v < u then 1 else if u < v then -1 else 0
theorem sgI_pos {u v:Int}:0 < sgI u v ↔ v < u:=by unfold sgI; split <;> (try split) <;> omega
theorem sgI_zero {u v:Int}:sgI u v = 0 ↔ u = v:=by unfold sgI; split <;> (try split) <;> omega
theorem sgI_neg {u v:Int}:sgI u v < 0 ↔ u < v:=by unfold sgI; split <;> (try split) <;> omega
theorem sgI_mul {s p q:Int}:sgI s p * sgI s q ≤ 0 ↔ (p ≤ s ∧ s ≤ q) ∨ (q ≤ s ∧ s ≤ p):=by
 unfold sgI
 split <;> split <;> (try split) <;> (try split) <;> simp <;> omega
open Classical in
noncomputable def ind (v u:Q2):Int:=if Pos (u - v) then 1 else 0
theorem ind_mono {u w:Q2} (v:Q2) (h:Pos (u - w)):ind v w ≤ ind v u:=by
 unfold ind
 by_cases h1:Pos (w - v)
 ·have h2:Pos (u - v):=by have:=h.add h1; rwa [show u - w + (w - v) = u - v by grind] at this
  rw [if_pos h1,if_pos h2]; exact Int.le_refl _
 ·rw [if_neg h1]; split <;> omega
theorem ind_self {u w:Q2} (h:Pos (u - w)):ind w w < ind w u:=by
 unfold ind
 rw [if_pos h,if_neg fun h':Pos (w - w)=>h'.ne (by grind)]; decide
theorem rank4 (A B X Y:Q2):∃ r:Q2 → Int,∀ u w,(u = A ∨ u = B ∨ u = X ∨ u = Y) → (w = A ∨ w = B ∨ w = X ∨ w = Y) → SgnP (sgI (r u) (r w)) (u - w):=by
 have key:∀ u w,(w = A ∨ w = B ∨ w = X ∨ w = Y) → Pos (u - w) → ind A w + ind B w + ind X w + ind Y w < ind A u + ind B u + ind X u + ind Y u:=fun u w hw h=>by
  have m1:=ind_mono A h
  have m2:=ind_mono B h
  have m3:=ind_mono X h
  have m4:=ind_mono Y h
  have s:=ind_self h
  rcases hw with rfl | rfl | rfl | rfl <;> omega
 refine ⟨fun u=>ind A u + ind B u + ind X u + ind Y u,fun u w hu hw=>?_⟩
 rcases sgn3 (u - w) with h | h | h
 ·exact .inl ⟨by have:=key u w hw h; unfold sgI; rw [if_pos this],h⟩
 ·have e:u = w:=by grind
  subst e
  exact .inr (.inl ⟨sgI_zero.2 rfl,h⟩)
 ·have h':Pos (w - u):=by rwa [show -(u - w) = w - u by grind] at h
  exact .inr (.inr ⟨by have:=key w u hu h'; unfold sgI; rw [if_neg (Int.not_lt.2 (Int.le_of_lt this)),if_pos this],h⟩)
theorem dot_par {vx vy g1 g2 g3 g4:Q2} (c1:vx * g2 = vy * g1) (c2:vx * g4 = vy * g3):(vx * vx + vy * vy) * (g1 * g3 + g2 * g4) = 1 * ((vx * g1 + vy * g2) * (vx * g3 + vy * g4)):=by
 have e1:vx * g2 * (vx * g4) = vy * g1 * (vy * g3):=by rw [c1,c2]
 have e2:vy * g1 * (vx * g4) = vy * g1 * (vy * g3):=by rw [c2]
 have e3:vx * g2 * (vy * g3) = vy * g1 * (vy * g3):=by rw [c1]
 grind
structure Four (a b x y:Pt) (p q s t:Int) (c:Int):Prop where
 pq:p < q
 st:s ≠ t
 dx:dsI x a b = sgI s p * sgI s q
 dy:dsI y a b = sgI t p * sgI t q
 da:dsI a x y = sgI p s * sgI p t
 db:dsI b x y = sgI q s * sgI q t
 hc:c = sgI (if (if s < t then t else s) < q then (if s < t then t else s) else q) (if p < (if s < t then s else t) then (if s < t then s else t) else p)
 ax:a = x → p = s
 bY:b = y → q = t
 aY:a = y → p = t
 bx:b = x → q = s
theorem four {a b x y:Pt} (ha:PK a) (hb:PK b) (hx:PK x) (hy:PK y) (hd:0 ≤ dirR (pminus b a)) (he:0 ≤ dirR (pminus y x)) (heq:dirR (pminus b a) % 8 = dirR (pminus y x) % 8) (h0:sd (sideL a b) x = 0) :
  ∃ p q s t,Four a b x y p q s t (nsign (nsub (nleast (ndot (vec (dirR (pminus b a))) b) (nmost (ndot (vec (dirR (pminus b a))) x) (ndot (vec (dirR (pminus b a))) y))) (nmost (ndot (vec (dirR (pminus b a))) a) (nleast (ndot (vec (dirR (pminus b a))) x) (ndot (vec (dirR (pminus b a))) y))))):=by
 have A:=dseg ha hb hd
 have B:=dseg hx hy he
 have V:=par_vec ha hb hx hy hd he heq
 have ax:=A.side x hx
 rw [h0,Int.mul_zero] at ax
 have ax0:=ax.zero
 have hv:=vec_k (dirR (pminus b a))
 have f:=A.fwd
 have pa:=A.par
 have pb:=B.par
 have fb:=B.fwd
 have N:=A.sq
 have eD:∀ {p:Pt},PK p → val (ndot (vec (dirR (pminus b a))) p) = val (vec (dirR (pminus b a))).x * val p.x + val (vec (dirR (pminus b a))).y * val p.y:=fun hp=>val_ndot hv hp
 have kk:∀ {p:Pt},PK p → 0 ≤ (ndot (vec (dirR (pminus b a))) p).k:=fun hp=>ndot_k hv hp
 have va:=eD ha
 have vb:=eD hb
 have vx':=eD hx
 have vy':=eD hy
 have ka:=kk ha
 have kb:=kk hb
 have kx:=kk hx
 have ky:=kk hy
 clear eD kk A B ax
 generalize ndot (vec (dirR (pminus b a))) a = na at *
 generalize ndot (vec (dirR (pminus b a))) b = nb at *
 generalize ndot (vec (dirR (pminus b a))) x = nx' at *
 generalize ndot (vec (dirR (pminus b a))) y = ny' at *
 have pb':val (vec (dirR (pminus b a))).x * (val y.y - val x.y) = val (vec (dirR (pminus b a))).y * (val y.x - val x.x):=by
  rcases V with ⟨e1,e2⟩ | ⟨e1,e2⟩ <;> rw [e1,e2] at pb <;> grind
 have fb':Pos (val ny' - val nx') ∨ Pos (-(val ny' - val nx')):=by
  rcases V with ⟨e1,e2⟩ | ⟨e1,e2⟩ <;> rw [e1,e2] at fb
  ·left; rw [vx',vy']; rwa [show val (vec (dirR (pminus b a))).x * (val y.x - val x.x) + val (vec (dirR (pminus b a))).y * (val y.y - val x.y) = val (vec (dirR (pminus b a))).x * val y.x + val (vec (dirR (pminus b a))).y * val y.y - (val (vec (dirR (pminus b a))).x * val x.x + val (vec (dirR (pminus b a))).y * val x.y) by grind] at fb
  ·right; rw [vx',vy']; rwa [show -val (vec (dirR (pminus b a))).x * (val y.x - val x.x) + -val (vec (dirR (pminus b a))).y * (val y.y - val x.y) = -(val (vec (dirR (pminus b a))).x * val y.x + val (vec (dirR (pminus b a))).y * val y.y - (val (vec (dirR (pminus b a))).x * val x.x + val (vec (dirR (pminus b a))).y * val x.y)) by grind] at fb
 have f':Pos (val nb - val na):=by
  rw [va,vb]; rwa [show val (vec (dirR (pminus b a))).x * (val b.x - val a.x) + val (vec (dirR (pminus b a))).y * (val b.y - val a.y) = val (vec (dirR (pminus b a))).x * val b.x + val (vec (dirR (pminus b a))).y * val b.y - (val (vec (dirR (pminus b a))).x * val a.x + val (vec (dirR (pminus b a))).y * val a.y) by grind] at f
 clear fb f pb V
 generalize val (vec (dirR (pminus b a))).x = vx at *
 generalize val (vec (dirR (pminus b a))).y = vy at *
 obtain ⟨r,hr⟩:=rank4 (val na) (val nb) (val nx') (val ny')
 have sN:∀ u w:Nu,0 ≤ u.k → 0 ≤ w.k → (val u = val na ∨ val u = val nb ∨ val u = val nx' ∨ val u = val ny') → (val w = val na ∨ val w = val nb ∨ val w = val nx' ∨ val w = val ny') → nsign (nsub u w) = sgI (r (val u)) (r (val w)):=fun u w hu hw h1 h2=>by
  have:=sgnP_nsign (nsub u w)
  rw [val_nsub hu hw] at this
  exact this.eq (hr _ _ h1 h2) rfl
 have dsE:∀ z u w:Pt,PK z → PK u → PK w → ∀ nz nu nw:Nu,val nz = vx * val z.x + vy * val z.y → val nu = vx * val u.x + vy * val u.y → val nw = vx * val w.x + vy * val w.y →
   (val nz = val na ∨ val nz = val nb ∨ val nz = val nx' ∨ val nz = val ny') → (val nu = val na ∨ val nu = val nb ∨ val nu = val nx' ∨ val nu = val ny') → (val nw = val na ∨ val nw = val nb ∨ val nw = val nx' ∨ val nw = val ny') →
   vx * (val z.y - val u.y) = vy * (val z.x - val u.x) → vx * (val z.y - val w.y) = vy * (val z.x - val w.x) → dsI z u w = sgI (r (val nz)) (r (val nu)) * sgI (r (val nz)) (r (val nw)):=by
  intro z u w hz hu hw nz nu nw ez eu ew mz mu mw c1 c2
  refine sgn_same (ds_val hz hu hw) (SgnP.mul (hr _ _ mz mu) (hr _ _ mz mw)) N pos1 ?_
  rw [ez,eu,ew]
  have e1:vx * val z.x + vy * val z.y - (vx * val u.x + vy * val u.y) = vx * (val z.x - val u.x) + vy * (val z.y - val u.y):=by grind
  have e2:vx * val z.x + vy * val z.y - (vx * val w.x + vy * val w.y) = vx * (val z.x - val w.x) + vy * (val z.y - val w.y):=by grind
  rw [e1,e2]
  generalize val z.x - val u.x = g1 at *
  generalize val z.y - val u.y = g2 at *
  generalize val z.x - val w.x = g3 at *
  generalize val z.y - val w.y = g4 at *
  exact dot_par c1 c2
 have cxa:vx * (val x.y - val a.y) = vy * (val x.x - val a.x):=by grind
 have cxb:vx * (val x.y - val b.y) = vy * (val x.x - val b.x):=by grind
 have cya:vx * (val y.y - val a.y) = vy * (val y.x - val a.x):=by grind
 have cyb:vx * (val y.y - val b.y) = vy * (val y.x - val b.x):=by grind
 have cax:vx * (val a.y - val x.y) = vy * (val a.x - val x.x):=by grind
 have cay:vx * (val a.y - val y.y) = vy * (val a.x - val y.x):=by grind
 have cbx:vx * (val b.y - val x.y) = vy * (val b.x - val x.x):=by grind
 have cby:vx * (val b.y - val y.y) = vy * (val b.x - val y.x):=by grind
 have mA:val na = val na ∨ val na = val nb ∨ val na = val nx' ∨ val na = val ny':=.inl rfl
 have mB:val nb = val na ∨ val nb = val nb ∨ val nb = val nx' ∨ val nb = val ny':=.inr (.inl rfl)
 have mX:val nx' = val na ∨ val nx' = val nb ∨ val nx' = val nx' ∨ val nx' = val ny':=.inr (.inr (.inl rfl))
 have mY:val ny' = val na ∨ val ny' = val nb ∨ val ny' = val nx' ∨ val ny' = val ny':=.inr (.inr (.inr rfl))
 have nlt:∀ {u w:Q2},(u = val na ∨ u = val nb ∨ u = val nx' ∨ u = val ny') → (w = val na ∨ w = val nb ∨ w = val nx' ∨ w = val ny') → Pos (u - w) → r w < r u:=fun h1 h2 h=>by
  rcases hr _ _ h1 h2 with ⟨e,-⟩ | ⟨-,e⟩ | ⟨-,e⟩
  ·exact sgI_pos.1 (by rw [e]; decide)
  ·exact (h.ne e).elim
  ·exact (h.anti e).elim
 refine ⟨r (val na),r (val nb),r (val nx'),r (val ny'),nlt mB mA f', ?_,dsE x a b hx ha hb _ _ _ vx' va vb mX mA mB cxa cxb,dsE y a b hy ha hb _ _ _ vy' va vb mY mA mB cya cyb,dsE a x y ha hx hy _ _ _ va vx' vy' mA mX mY cax cay,dsE b x y hb hx hy _ _ _ vb vx' vy' mB mX mY cbx cby, ?_, ?_, ?_, ?_, ?_⟩
 ·rcases fb' with h | h
  ·have:=nlt mY mX h; omega
  ·have:=nlt mX mY (by rwa [show -(val ny' - val nx') = val nx' - val ny' by grind] at h); omega
 ·-- the least and the greatest
  have l1:nleast nx' ny' = if r (val nx') < r (val ny') then nx' else ny':=by
   unfold nleast; rw [sN _ _ kx ky mX mY]; simp only [sgI_neg]
  have l2:nmost nx' ny' = if r (val ny') < r (val nx') then nx' else ny':=by
   unfold nmost; rw [sN _ _ kx ky mX mY]; simp only [sgI_pos]
  have hst:r (val nx') ≠ r (val ny'):=by
   rcases fb' with h | h
   ·have:=nlt mY mX h; omega
   ·have:=nlt mX mY (by rwa [show -(val ny' - val nx') = val nx' - val ny' by grind] at h); omega
  rw [l1,l2]
  by_cases h:r (val nx') < r (val ny')
  ·rw [if_pos h,if_neg (by omega),if_pos h,if_pos h]
   unfold nleast nmost
   rw [sN _ _ kb ky mB mY,sN _ _ ka kx mA mX]
   simp only [sgI_neg,sgI_pos]
   by_cases h1:r (val nb) < r (val ny') <;> by_cases h2:r (val nx') < r (val na) <;> simp only [h1,h2,if_true,if_false]
   ·rw [sN _ _ kb ka mB mA,if_neg (by omega),if_neg (by omega)]
   ·rw [sN _ _ kb kx mB mX,if_neg (by omega)]
    by_cases h3:r (val na) < r (val nx')
    ·rw [if_pos h3]
    ·rw [if_neg h3,show r (val nx') = r (val na) by omega]
   ·rw [sN _ _ ky ka mY mA,if_neg (show ¬ r (val na) < r (val nx') by omega)]
    by_cases h3:r (val ny') < r (val nb)
    ·rw [if_pos h3]
    ·rw [if_neg h3,show r (val ny') = r (val nb) by omega]
   ·rw [sN _ _ ky kx mY mX]
    by_cases h3:r (val ny') < r (val nb) <;> by_cases h4:r (val na) < r (val nx')
    ·rw [if_pos h3,if_pos h4]
    ·rw [if_pos h3,if_neg h4,show r (val nx') = r (val na) by omega]
    ·rw [if_neg h3,if_pos h4,show r (val ny') = r (val nb) by omega]
    ·rw [if_neg h3,if_neg h4,show r (val ny') = r (val nb) by omega,show r (val nx') = r (val na) by omega]
  ·rw [if_neg h,if_pos (by omega),if_neg h,if_neg h]
   unfold nleast nmost
   rw [sN _ _ kb kx mB mX,sN _ _ ka ky mA mY]
   simp only [sgI_neg,sgI_pos]
   by_cases h1:r (val nb) < r (val nx') <;> by_cases h2:r (val ny') < r (val na) <;> simp only [h1,h2,if_true,if_false]
   ·rw [sN _ _ kb ka mB mA,if_neg (by omega),if_neg (by omega)]
   ·rw [sN _ _ kb ky mB mY,if_neg (by omega)]
    by_cases h3:r (val na) < r (val ny')
    ·rw [if_pos h3]
    ·rw [if_neg h3,show r (val ny') = r (val na) by omega]
   ·rw [sN _ _ kx ka mX mA,if_neg (show ¬ r (val na) < r (val ny') by omega)]
    by_cases h3:r (val nx') < r (val nb)
    ·rw [if_pos h3]
    ·rw [if_neg h3,show r (val nx') = r (val nb) by omega]
   ·rw [sN _ _ kx ky mX mY]
    by_cases h3:r (val nx') < r (val nb) <;> by_cases h4:r (val na) < r (val ny')
    ·rw [if_pos h3,if_pos h4]
    ·rw [if_pos h3,if_neg h4,show r (val ny') = r (val na) by omega]
    ·rw [if_neg h3,if_pos h4,show r (val nx') = r (val nb) by omega]
    ·rw [if_neg h3,if_neg h4,show r (val nx') = r (val nb) by omega,show r (val ny') = r (val na) by omega]
 ·rintro rfl; rw [va,vx']
 ·rintro rfl; rw [vb,vy']
 ·rintro rfl; rw [va,vy']
 ·rintro rfl; rw [vb,vx']
end Go.Vai
namespace Go.Vai
theorem touch_int {s1 s2 t1 t2:Int} (h1:s1 = -1 ∨ s1 = 0 ∨ s1 = 1) (h2:s2 = -1 ∨ s2 = 0 ∨ s2 = 1) (h3:t1 = -1 ∨ t1 = 0 ∨ t1 = 1) (h4:t2 = -1 ∨ t2 = 0 ∨ t2 = 1) :
  ((((decide (s1 = 0) && decide (t1 * t2 ≤ 0)) || ((decide (s2 = 0) && decide (t1 * t2 ≤ 0)) || ((decide (t1 = 0) && decide (s1 * s2 ≤ 0)) || (decide (t2 = 0) && decide (s1 * s2 ≤ 0))))) || (decide (s1 * s2 < 0) && decide (t1 * t2 < 0)))) = (decide (s1 * s2 ≤ 0) && decide (t1 * t2 ≤ 0)):=by
 rcases h1 with rfl | rfl | rfl <;> rcases h2 with rfl | rfl | rfl <;> rcases h3 with rfl | rfl | rfl <;> rcases h4 with rfl | rfl | rfl <;> rfl
theorem apart_meet {a b x y:Pt} (ha:PK a) (hb:PK b) (hx:PK x) (hy:PK y) (hd:0 ≤ dirR (pminus b a)) (he:0 ≤ dirR (pminus y x)) {cf ct df dt:Int}
  (h1:cf = df → a = x) (h2:ct = dt → b = y) (h3:cf = dt → a = y) (h4:ct = df → b = x):apartB cf ct df dt a b x y = !meetB a b x y (shareB cf ct df dt):=by
 obtain ⟨ea,eb⟩:=sd_ends ha hb hd
 obtain ⟨ex,ey⟩:=sd_ends hx hy he
 have r1:=sd_range (sideL a b) x
 have r2:=sd_range (sideL a b) y
 have r3:=sd_range (sideL x y) a
 have r4:=sd_range (sideL x y) b
 by_cases hp:dirR (pminus b a) % 8 ≠ dirR (pminus y x) % 8
 ·have n1:=two_on ha hb hx hy hd he hp
  have n2:=two_on hx hy ha hb he hd (fun h=>hp h.symm)
  have iX:=isOn_np ha hb hx hy hd he hp hx ex
  have iY:=isOn_np ha hb hx hy hd he hp hy ey
  have iA:=isOn_np hx hy ha hb he hd (fun h=>hp h.symm) ha ea
  have iB:=isOn_np hx hy ha hb he hd (fun h=>hp h.symm) hb eb
  unfold meetB apartB
  rw [if_pos hp]
  by_cases c1:cf = df
  ·obtain rfl:=h1 c1
   rw [if_pos c1,iY,iB,show shareB cf ct df dt = true by unfold shareB; rw [decide_eq_true c1]; rfl]
   rw [decide_eq_false (fun h=>n1 ea h),decide_eq_false (fun h=>n2 ex h)]; rfl
  ·rw [if_neg c1]
   by_cases c2:ct = dt
   ·obtain rfl:=h2 c2
    rw [if_pos c2,iX,iA,show shareB cf ct df dt = true by unfold shareB; rw [decide_eq_true c2]; simp]
    rw [decide_eq_false (fun h=>n1 h eb),decide_eq_false (fun h=>n2 h ey)]; rfl
   ·rw [if_neg c2]
    by_cases c3:cf = dt
    ·obtain rfl:=h3 c3
     rw [if_pos c3,iX,iB,show shareB cf ct df dt = true by unfold shareB; rw [decide_eq_true c3]; simp]
     rw [decide_eq_false (fun h=>n1 h ea),decide_eq_false (fun h=>n2 ey h)]; rfl
    ·rw [if_neg c3]
     by_cases c4:ct = df
     ·obtain rfl:=h4 c4
      rw [if_pos c4,iY,iA,show shareB cf ct df dt = true by unfold shareB; rw [decide_eq_true c4]; simp]
      rw [decide_eq_false (fun h=>n1 eb h),decide_eq_false (fun h=>n2 h ex)]; rfl
     ·rw [if_neg c4,show shareB cf ct df dt = false by unfold shareB; simp [c1,c2,c3,c4]]
      unfold touchB
      rw [iX,iY,iA,iB,or_prod ha hb hx hy hd,or_prod hx hy ha hb he,touch_int r1 r2 r3 r4]; rfl
 ·have heq:dirR (pminus b a) % 8 = dirR (pminus y x) % 8:=Classical.byContradiction hp
  have py:=par_y ha hb hx hy hd he heq
  obtain ⟨pa,pb⟩:=par_a ha hb hx hy hd he heq
  by_cases h0:sd (sideL a b) x = 0
  ·have y0:sd (sideL a b) y = 0:=by rw [py]; exact h0
   have a0:=pa.2 h0
   have b0:sd (sideL x y) b = 0:=by rw [pb]; exact a0
   obtain ⟨p,q,s,t,F⟩:=four ha hb hx hy hd he heq h0
   have iX:isOnB a b x = decide ((p ≤ s ∧ s ≤ q) ∨ (q ≤ s ∧ s ≤ p)):=by
    unfold isOnB; rw [decide_eq_true ((or_zero ha hb hx hd).2 h0),F.dx]; simp only [sgI_mul,Bool.true_and]
   have iY:isOnB a b y = decide ((p ≤ t ∧ t ≤ q) ∨ (q ≤ t ∧ t ≤ p)):=by
    unfold isOnB; rw [decide_eq_true ((or_zero ha hb hy hd).2 y0),F.dy]; simp only [sgI_mul,Bool.true_and]
   have iA:isOnB x y a = decide ((s ≤ p ∧ p ≤ t) ∨ (t ≤ p ∧ p ≤ s)):=by
    unfold isOnB; rw [decide_eq_true ((or_zero hx hy ha he).2 a0),F.da]; simp only [sgI_mul,Bool.true_and]
   have iB:isOnB x y b = decide ((s ≤ q ∧ q ≤ t) ∨ (t ≤ q ∧ q ≤ s)):=by
    unfold isOnB; rw [decide_eq_true ((or_zero hx hy hb he).2 b0),F.db]; simp only [sgI_mul,Bool.true_and]
   have oz:ornt a b x * ornt a b y = 0:=by rw [or_prod ha hb hx hy hd,h0,Int.zero_mul]
   have hc:=F.hc
   have pq:=F.pq
   have st:=F.st
   have f1:=F.ax
   have f2:=F.bY
   have f3:=F.aY
   have f4:=F.bx
   unfold meetB apartB touchB
   rw [if_neg hp,if_neg (show ¬ (sd (sideL a b) x ≠ 0) by rw [h0]; simp)]
   simp only
   rw [hc,iX,iY,iA,iB,oz]
   clear hc iX iY iA iB F oz
   have e0:decide ((0:Int) < 0) = false:=rfl
   rw [e0,Bool.false_and,Bool.or_false]
   simp only [sgI_pos,sgI_zero]
   have sh:shareB cf ct df dt = true ↔ (cf = df ∨ cf = dt ∨ ct = df ∨ ct = dt):=by unfold shareB; simp
   rw [Bool.eq_iff_iff]
   by_cases c1:cf = df
   ·have:=f1 (h1 c1)
    rw [if_pos c1,sh.2 (.inl c1)]
    simp only [Bool.and_eq_true,Bool.not_eq_true',decide_eq_false_iff_not,Bool.or_eq_false_iff,Bool.not_true,Bool.and_false,and_true,Bool.or_false]
    split <;> split <;> split <;> omega
   ·rw [if_neg c1]
    by_cases c2:ct = dt
    ·have:=f2 (h2 c2)
     rw [if_pos c2,sh.2 (.inr (.inr (.inr c2)))]
     simp only [Bool.and_eq_true,Bool.not_eq_true',decide_eq_false_iff_not,Bool.or_eq_false_iff,Bool.not_true,Bool.and_false,and_true,Bool.or_false]
     split <;> split <;> split <;> omega
    ·rw [if_neg c2]
     by_cases c3:cf = dt
     ·have:=f3 (h3 c3)
      rw [if_pos c3,sh.2 (.inr (.inl c3))]
      simp only [Bool.and_eq_true,Bool.not_eq_true',decide_eq_false_iff_not,Bool.or_eq_false_iff,Bool.not_true,Bool.and_false,and_true,Bool.or_false]
      split <;> split <;> split <;> omega
     ·rw [if_neg c3]
      by_cases c4:ct = df
      ·have:=f4 (h4 c4)
       rw [if_pos c4,sh.2 (.inr (.inr (.inl c4)))]
       simp only [Bool.and_eq_true,Bool.not_eq_true',decide_eq_false_iff_not,Bool.or_eq_false_iff,Bool.not_true,Bool.and_false,and_true,Bool.or_false]
       split <;> split <;> split <;> omega
      ·have sf:shareB cf ct df dt = false:=by unfold shareB; simp [c1,c2,c3,c4]
       rw [if_neg c4,sf]
       simp only [Bool.not_eq_true',Bool.not_false,Bool.and_true,Bool.or_eq_false_iff,decide_eq_false_iff_not]
       split <;> split <;> split <;> omega
  ·have y0:sd (sideL a b) y ≠ 0:=by rw [py]; exact h0
   have a0:sd (sideL x y) a ≠ 0:=fun h=>h0 (pa.1 h)
   have b0:sd (sideL x y) b ≠ 0:=by rw [pb]; exact a0
   have iX:isOnB a b x = false:=by unfold isOnB; rw [decide_eq_false (fun h=>h0 ((or_zero ha hb hx hd).1 h))]; rfl
   have iY:isOnB a b y = false:=by unfold isOnB; rw [decide_eq_false (fun h=>y0 ((or_zero ha hb hy hd).1 h))]; rfl
   have iA:isOnB x y a = false:=by unfold isOnB; rw [decide_eq_false (fun h=>a0 ((or_zero hx hy ha he).1 h))]; rfl
   have iB:isOnB x y b = false:=by unfold isOnB; rw [decide_eq_false (fun h=>b0 ((or_zero hx hy hb he).1 h))]; rfl
   have hpos:¬ ornt a b x * ornt a b y < 0:=by
    rw [or_prod ha hb hx hy hd,py]
    rcases r1 with e | e | e <;> rw [e] <;> decide
   unfold meetB apartB touchB
   rw [if_neg hp,if_pos h0,iX,iY,iA,iB,decide_eq_false hpos]
   simp
end Go.Vai
namespace Go.Vai
structure Cr where
 a:Int
 b:Int
 k:Int
deriving DecidableEq
def encK (c:Cr):List IV:=[.int .i64 c.a,.int .i64 c.b,.int .i64 c.k]
@[simp] theorem encK_len (c:Cr):(encK c).length = 3:=rfl
def encPa (ps:List Pt) (cs:List Cr):List IV:=[.sl (encPs ps),.sl (cs.map encK)]
theorem c100 (c:Cr):PC E 100 [.agg (encK c)] [.agg (encK c)]:=by
 refine zP hE Proofs.Tryz.func100 Proofs.Tryz.ntmps100 rfl rfl ?_
 simp (maxSteps:=999999) (disch:=first|exact {}|omega|simp) [zS,encK]
theorem c115 (c:Cr):PC E 115 [.agg (encK c),.agg (encK c)] [.i (.bool true)]:=by
 refine zP hE Proofs.Tryz.func115 Proofs.Tryz.ntmps115 rfl rfl ?_
 simp (maxSteps:=999999) (disch:=first|exact {}|omega|simp) [zS,encK]
theorem c48 (ls:List Cr) (h:(ls.length:Int) ≤ 1048576):PC E 48 [.i (.sl (ls.map encK))] [.own 3 (ls.map encK)]:=by
 refine zP hE Proofs.Tryz.func48 Proofs.Tryz.ntmps48 rfl rfl ?_
 simp (maxSteps:=999999) (disch:=first|exact {}|omega|simp) [zS]
 have hl:(ls.map encK).length = ls.length:=by simp
 refine XL.by hE (ι:={ k:Nat // k ≤ ls.length }) (fun k=>⟨[(3,.own 7 0 ls.length),(4,.i (.int .i64 k.1)),(0,.i (.sl (ls.map encK)))],
  [(7,⟨3,fill (ls.map encK) [.int .i64 0,.int .i64 0,.int .i64 0] k.1⟩)]⟩) (fun k=>ls.length - k.1) ⟨0,Nat.zero_le _⟩ ⟨by simp,by simp [fill_zero],by simp⟩ (by kernel_rfl) ?_
 rintro ⟨k,hk⟩
 by_cases hlt:k < ls.length
 ·have hg:(ls.map encK)[k]? = some (encK ls[k]):=by simp [hlt]
  have hz:=fill_get (ls.map encK) [.int .i64 0,.int .i64 0,.int .i64 0] k (by omega)
  have hs:=fill_set (ls.map encK) [.int .i64 0,.int .i64 0,.int .i64 0] k (encK ls[k]) hg
  simp (maxSteps:=999999) (disch:=first|exact {}|omega|simp) [zS,hlt,hg]
  refine zC (c100 ls[k]) ?_
  simp [encK] at hs
  simp (maxSteps:=999999) (disch:=first|exact {}|omega|simp) [zS,hlt,hz,hs,encK]
  (refine ⟨⟨k + 1,by omega⟩,by (simp; try omega), ?_⟩; constructor <;> (simp (maxSteps:=999999) (disch:=first|exact {}|omega|simp) [zS]) <;> (try omega))
 ·have hf:=fill_all (ls.map encK) [.int .i64 0,.int .i64 0,.int .i64 0] k (by omega)
  have ht:List.take ls.length (ls.map encK) = ls.map encK:=List.take_of_length_le (by simp)
  simp (maxSteps:=999999) (disch:=first|exact {}|omega|simp) [zS,hlt,hf,ht]
theorem c52 (l:List Cr) (h:(l.length:Int) ≤ 1048576):PC E 52 [.i (.sl (l.map encK)),.i (.sl (l.map encK))] [.i (.bool true)]:=by
 refine zP hE Proofs.Tryz.func52 Proofs.Tryz.ntmps52 rfl rfl ?_
 simp (maxSteps:=999999) (disch:=first|exact {}|omega|simp) [zS]
 refine XL.by hE (ι:={ k:Nat // k ≤ l.length }) (fun k=>⟨[(5,.i (.int .i64 k.1)),(0,.i (.sl (l.map encK))),(1,.i (.sl (l.map encK)))],[]⟩) (fun k=>l.length - k.1) ⟨0,Nat.zero_le _⟩
  ⟨by simp,by simp,by simp⟩ (by kernel_rfl) ?_
 rintro ⟨k,hk⟩
 by_cases hlt:k < l.length
 ·simp (maxSteps:=999999) (disch:=first|exact {}|omega|simp) [zS,hlt]
  refine zC (c115 l[k]) ?_
  simp (maxSteps:=999999) (disch:=first|exact {}|omega|simp) [zS]
  (refine ⟨⟨k + 1,by omega⟩,by (simp; try omega), ?_⟩; constructor <;> (simp (maxSteps:=999999) (disch:=first|exact {}|omega|simp) [zS]) <;> (try omega))
 ·simp (maxSteps:=999999) (disch:=first|exact {}|omega|simp) [zS,hlt]
theorem c43 (ls:List Cr) (n:Int) (h0:0 ≤ n) (h1:n ≤ 1048576) (h:(ls.length:Int) ≤ 9223372036854775807):PC E 43 [.i (.sl (ls.map encK)),.i (.int .i64 n)] [.i (.int .i64 (if n - ls.length < 0 then -1 else n - ls.length))]:=by
 refine zP hE Proofs.Tryz.func43 Proofs.Tryz.ntmps43 rfl rfl ?_
 simp (maxSteps:=999999) (disch:=first|exact {}|omega|simp) [zS]
 (first | refine Gd.dec (fun h2=>?_) (fun h2=>?_) | refine Gd.intro (fun h2=>?_) (fun h2=>?_)) <;> simp (maxSteps:=999999) (disch:=first|exact {}|omega|simp) [zS,h2]
 all_goals omega
theorem c12 (ps:List Pt) (cs:List Cr) (h:(ps.length:Int) ≤ 9223372036854775807) (h':(cs.length:Int) ≤ 9223372036854775807) :
  PC E 12 [.agg (encPa ps cs),.i (.int .i64 1048576)] [.i (.int .i64 (if (ps.length:Int) + cs.length ≤ 1048576 then 1048576 - ps.length - cs.length else -1))]:=by
 refine zP hE Proofs.Tryz.func12 Proofs.Tryz.ntmps12 rfl rfl ?_
 simp (maxSteps:=999999) (disch:=first|exact {}|omega|simp) [zS,encPa]
 refine zC (c42 ps 1048576 (by omega) (by omega) (by omega)) ?_
 by_cases g1:(1048576:Int) - ps.length < 0
 ·have e:¬ (ps.length:Int) + cs.length ≤ 1048576:=by omega
  simp (maxSteps:=999999) (disch:=first|exact {}|omega|simp) [zS,g1,e]
 ·simp (maxSteps:=999999) (disch:=first|exact {}|omega|simp) [zS,g1]
  refine zC (c43 cs (1048576 - ps.length) (by omega) (by omega) (by omega)) ?_
  by_cases g2:(1048576:Int) - ps.length - cs.length < 0
  ·have e:¬ (ps.length:Int) + cs.length ≤ 1048576:=by omega
   simp (maxSteps:=999999) (disch:=first|exact {}|omega|simp) [zS,g2,e]
  ·have e:(ps.length:Int) + cs.length ≤ 1048576:=by omega
   simp (maxSteps:=999999) (disch:=first|exact {}|omega|simp) [zS,g2,e]
theorem c14 (ps:List Pt) (cs:List Cr) (h:(ps.length:Int) ≤ 1048576) (h':(cs.length:Int) ≤ 1048576):PC E 14 [.agg (encPa ps cs)] [.agg (encPa ps cs)]:=by
 refine zP hE Proofs.Tryz.func14 Proofs.Tryz.ntmps14 rfl rfl ?_
 simp (maxSteps:=999999) (disch:=first|exact {}|omega|simp) [zS,encPa]
 refine zC ((c47 ps h).imm) ?_
 simp (maxSteps:=999999) (disch:=first|exact {}|omega|simp) [zS]
 refine zC ((c48 cs h').imm) ?_
 simp (maxSteps:=999999) (disch:=first|exact {}|omega|simp) [zS]
theorem c17 (ps:List Pt) (cs:List Cr) (h:(ps.length:Int) ≤ 1048576) (h':(cs.length:Int) ≤ 1048576):PC E 17 [.agg (encPa ps cs),.agg (encPa ps cs)] [.i (.bool true)]:=by
 refine zP hE Proofs.Tryz.func17 Proofs.Tryz.ntmps17 rfl rfl ?_
 simp (maxSteps:=999999) (disch:=first|exact {}|omega|simp) [zS,encPa]
 refine zC (c30 ps ps h h) ?_
 simp (maxSteps:=999999) (disch:=first|exact {}|omega|simp) [zS]
 refine zC (c52 cs h') ?_
 simp (maxSteps:=999999) (disch:=first|exact {}|omega|simp) [zS]
theorem c105 (ps:List Pt) (cs:List Cr) (c:Cr) (h0:0 ≤ c.a) (h1:c.a < ps.length):PC E 105 [.agg (encPa ps cs),.agg (encK c)] [.agg (encP (nth ps c.a.toNat))]:=by
 have hg:=encPs_get (l:=ps) (k:=c.a.toNat) (by omega)
 have hn:¬ c.a < 0:=by omega
 have hlt:c.a.toNat < ps.length:=by omega
 refine zP hE Proofs.Tryz.func105 Proofs.Tryz.ntmps105 rfl rfl ?_
 simp (maxSteps:=999999) (disch:=first|exact {}|omega|simp) [zS,encK,encPa,hg,hn,hlt]
theorem c106 (ps:List Pt) (cs:List Cr) (c:Cr) (h0:0 ≤ c.b) (h1:c.b < ps.length):PC E 106 [.agg (encPa ps cs),.agg (encK c)] [.agg (encP (nth ps c.b.toNat))]:=by
 have hg:=encPs_get (l:=ps) (k:=c.b.toNat) (by omega)
 have hn:¬ c.b < 0:=by omega
 have hlt:c.b.toNat < ps.length:=by omega
 refine zP hE Proofs.Tryz.func106 Proofs.Tryz.ntmps106 rfl rfl ?_
 simp (maxSteps:=999999) (disch:=first|exact {}|omega|simp) [zS,encK,encPa,hg,hn,hlt]
abbrev PV (p:Pt):Prop:=PB 10 134217728 p
theorem c193 (a b c:Pt) (ha:PV a) (hb:PV b) (hc:PV c):PC E 193 [.agg (encP a),.agg (encP b),.agg (encP c)] [.i (.int .i64 (ornt a b c))]:=by
 have m1:=hb.minus ha
 have m2:=hc.minus ha
 have mc:=m1.cross m2
 refine zP hE Proofs.Tryz.func193 Proofs.Tryz.ntmps193 rfl rfl ?_
 simp (maxSteps:=999999) (disch:=first|exact {}|omega|simp) [zS]
 refine zC (c213 b a hb ha (by decide) (by decide)) ?_
 simp (maxSteps:=999999) (disch:=first|exact {}|omega|simp) [zS]
 refine zC (c213 c a hc ha (by decide) (by decide)) ?_
 simp (maxSteps:=999999) (disch:=first|exact {}|omega|simp) [zS]
 refine zC (c143 (pminus b a) (pminus c a) m1 m2 (by decide) (by decide) (by decide)) ?_
 simp (maxSteps:=999999) (disch:=first|exact {}|omega|simp) [zS]
 refine zC (c140 (pcross (pminus b a) (pminus c a)) (mc.i64 (by decide) (by decide)) (mc.ne (by decide)).1 (mc.ne (by decide)).2) ?_
 simp (maxSteps:=999999) (disch:=first|exact {}|omega|simp) [zS,ornt]
theorem c249 (p q x:Pt) (hp:PV p) (hq:PV q) (hx:PV x):PC E 249 [.agg (encP p),.agg (encP q),.agg (encP x)] [.i (.bool (isOnB p q x))]:=by
 have m1:=hx.minus hp
 have m2:=hx.minus hq
 have mc:=m1.dot m2
 refine zP hE Proofs.Tryz.func249 Proofs.Tryz.ntmps249 rfl rfl ?_
 simp (maxSteps:=999999) (disch:=first|exact {}|omega|simp) [zS]
 refine zC (c193 p q x hp hq hx) ?_
 simp (maxSteps:=999999) (disch:=first|exact {}|omega|simp) [zS]
 (first | refine Gd.dec (fun h1=>?_) (fun h1=>?_) | refine Gd.intro (fun h1=>?_) (fun h1=>?_)) <;> simp (maxSteps:=999999) (disch:=first|exact {}|omega|simp) [zS,h1]
 ·refine zC (c213 x p hx hp (by decide) (by decide)) ?_
  simp (maxSteps:=999999) (disch:=first|exact {}|omega|simp) [zS]
  refine zC (c213 x q hx hq (by decide) (by decide)) ?_
  simp (maxSteps:=999999) (disch:=first|exact {}|omega|simp) [zS]
  refine zC (c138 (pminus x p) (pminus x q) m1 m2 (by decide) (by decide) (by decide)) ?_
  simp (maxSteps:=999999) (disch:=first|exact {}|omega|simp) [zS]
  refine zC (c140 (ndot (pminus x p) (pminus x q)) (mc.i64 (by decide) (by decide)) (mc.ne (by decide)).1 (mc.ne (by decide)).2) ?_
  simp (maxSteps:=999999) (disch:=first|exact {}|omega|simp) [zS,isOnB,dsI,h1]
  rfl
 ·simp [isOnB,h1]
theorem ornt_range (a b c:Pt):ornt a b c = -1 ∨ ornt a b c = 0 ∨ ornt a b c = 1:=nsign_range _
theorem c250 (p q x y:Pt) (hp:PV p) (hq:PV q) (hx:PV x) (hy:PV y):PC E 250 [.agg (encP p),.agg (encP q),.agg (encP x),.agg (encP y)] [.i (.bool (touchB p q x y))]:=by
 have w1:=mul_sd (ornt_range p q x) (ornt_range p q y)
 have w2:=mul_sd (ornt_range x y p) (ornt_range x y q)
 refine zP hE Proofs.Tryz.func250 Proofs.Tryz.ntmps250 rfl rfl ?_
 simp (maxSteps:=999999) (disch:=first|exact {}|omega|simp) [zS]
 refine zC (c249 p q x hp hq hx) ?_
 simp (maxSteps:=999999) (disch:=first|exact {}|omega|simp) [zS]
 cases e1:isOnB p q x
 rotate_left
 ·simp (maxSteps:=999999) (disch:=first|exact {}|omega|simp) [zS,touchB,e1]
 simp (maxSteps:=999999) (disch:=first|exact {}|omega|simp) [zS]
 refine zC (c249 p q y hp hq hy) ?_
 simp (maxSteps:=999999) (disch:=first|exact {}|omega|simp) [zS]
 cases e2:isOnB p q y
 rotate_left
 ·simp (maxSteps:=999999) (disch:=first|exact {}|omega|simp) [zS,touchB,e1,e2]
 simp (maxSteps:=999999) (disch:=first|exact {}|omega|simp) [zS]
 refine zC (c249 x y p hx hy hp) ?_
 simp (maxSteps:=999999) (disch:=first|exact {}|omega|simp) [zS]
 cases e3:isOnB x y p
 rotate_left
 ·simp (maxSteps:=999999) (disch:=first|exact {}|omega|simp) [zS,touchB,e1,e2,e3]
 simp (maxSteps:=999999) (disch:=first|exact {}|omega|simp) [zS]
 refine zC (c249 x y q hx hy hq) ?_
 simp (maxSteps:=999999) (disch:=first|exact {}|omega|simp) [zS]
 cases e4:isOnB x y q
 rotate_left
 ·simp (maxSteps:=999999) (disch:=first|exact {}|omega|simp) [zS,touchB,e1,e2,e3,e4]
 simp (maxSteps:=999999) (disch:=first|exact {}|omega|simp) [zS]
 refine zC (c193 p q x hp hq hx) ?_
 simp (maxSteps:=999999) (disch:=first|exact {}|omega|simp) [zS]
 refine zC (c193 p q y hp hq hy) ?_
 simp (maxSteps:=999999) (disch:=first|exact {}|omega|simp) [zS,w1]
 (first | refine Gd.dec (fun h1=>?_) (fun h1=>?_) | refine Gd.intro (fun h1=>?_) (fun h1=>?_)) <;> simp (maxSteps:=999999) (disch:=first|exact {}|omega|simp) [zS,h1]
 ·refine zC (c193 x y p hx hy hp) ?_
  simp (maxSteps:=999999) (disch:=first|exact {}|omega|simp) [zS]
  refine zC (c193 x y q hx hy hq) ?_
  simp (maxSteps:=999999) (disch:=first|exact {}|omega|simp) [zS,w2,touchB,e1,e2,e3,e4,h1]
 ·simp (maxSteps:=999999) (disch:=first|exact {}|omega|simp) [zS,touchB,e1,e2,e3,e4,h1]
end Go.Vai
set_option maxRecDepth 20000
namespace Go.Vai
open Pq
structure Cin (n:Nat) (c:Cr):Prop where
 a0:0 ≤ c.a
 ab:c.a < c.b
 bn:c.b < n
def pI (ps:List Pt) (i:Int):Pt:=nth ps i.toNat
theorem pI_pv {ps:List Pt} (hv:∀ p ∈ ps,PV p) {i:Int} (h0:0 ≤ i) (h1:i < ps.length):PV (pI ps i):=hv _ (nth_mem (by omega))
def apC (ps:List Pt) (c d:Cr):Bool:=apartB c.a c.b d.a d.b (pI ps c.a) (pI ps c.b) (pI ps d.a) (pI ps d.b)
theorem c188 (ps:List Pt) (cs:List Cr) (c d:Cr) (hv:∀ p ∈ ps,PV p) (hc:Cin ps.length c) (hd:Cin ps.length d) :
  PC E 188 [.agg (encPa ps cs),.agg (encK c),.agg (encK d)] [.i (.bool (apC ps c d))]:=by
 have A:=pI_pv hv (i:=c.a) hc.a0 (by have:=hc.ab; have:=hc.bn; omega)
 have B:=pI_pv hv (i:=c.b) (by have:=hc.a0; have:=hc.ab; omega) hc.bn
 have X:=pI_pv hv (i:=d.a) hd.a0 (by have:=hd.ab; have:=hd.bn; omega)
 have Y:=pI_pv hv (i:=d.b) (by have:=hd.a0; have:=hd.ab; omega) hd.bn
 have f1:=c105 ps cs c hc.a0 (by have:=hc.ab; have:=hc.bn; omega)
 have f2:=c106 ps cs c (by have:=hc.a0; have:=hc.ab; omega) hc.bn
 have f3:=c105 ps cs d hd.a0 (by have:=hd.ab; have:=hd.bn; omega)
 have f4:=c106 ps cs d (by have:=hd.a0; have:=hd.ab; omega) hd.bn
 unfold apC
 change PC E _ _ [.agg (encP (pI ps c.a))] at f1
 change PC E _ _ [.agg (encP (pI ps c.b))] at f2
 change PC E _ _ [.agg (encP (pI ps d.a))] at f3
 change PC E _ _ [.agg (encP (pI ps d.b))] at f4
 generalize pI ps c.a = a at *
 generalize pI ps c.b = b at *
 generalize pI ps d.a = x at *
 generalize pI ps d.b = y at *
 refine zP hE Proofs.Tryz.func188 Proofs.Tryz.ntmps188 rfl rfl ?_
 simp (maxSteps:=999999) (disch:=first|exact {}|omega|simp) [zS,encK,encPa]
 refine zC (f1) ?_
 simp (maxSteps:=999999) (disch:=first|exact {}|omega|simp) [zS]
 refine zC (f2) ?_
 simp (maxSteps:=999999) (disch:=first|exact {}|omega|simp) [zS]
 refine zC (f3) ?_
 simp (maxSteps:=999999) (disch:=first|exact {}|omega|simp) [zS]
 refine zC (f4) ?_
 simp (maxSteps:=999999) (disch:=first|exact {}|omega|simp) [zS]
 unfold apartB
 (first | refine Gd.dec (fun h1=>?_) (fun h1=>?_) | refine Gd.intro (fun h1=>?_) (fun h1=>?_)) <;> simp (maxSteps:=999999) (disch:=first|exact {}|omega|simp) [zS,h1]
 ·try rw [if_pos h1]
  refine zC (c249 a b y A B Y) ?_
  simp (maxSteps:=999999) (disch:=first|exact {}|omega|simp) [zS]
  cases e1:isOnB a b y
  rotate_left
  ·simp (maxSteps:=999999) (disch:=first|exact {}|omega|simp) [zS]
  simp (maxSteps:=999999) (disch:=first|exact {}|omega|simp) [zS]
  refine zC (c249 x y b X Y B) ?_
  simp (maxSteps:=999999) (disch:=first|exact {}|omega|simp) [zS]
 ·try rw [if_neg h1]
  (first | refine Gd.dec (fun h2=>?_) (fun h2=>?_) | refine Gd.intro (fun h2=>?_) (fun h2=>?_)) <;> simp (maxSteps:=999999) (disch:=first|exact {}|omega|simp) [zS,h2]
  ·try rw [if_pos h2]
   refine zC (c249 a b x A B X) ?_
   simp (maxSteps:=999999) (disch:=first|exact {}|omega|simp) [zS]
   cases e1:isOnB a b x
   rotate_left
   ·simp (maxSteps:=999999) (disch:=first|exact {}|omega|simp) [zS]
   simp (maxSteps:=999999) (disch:=first|exact {}|omega|simp) [zS]
   refine zC (c249 x y a X Y A) ?_
   simp (maxSteps:=999999) (disch:=first|exact {}|omega|simp) [zS]
  ·try rw [if_neg h2]
   (first | refine Gd.dec (fun h3=>?_) (fun h3=>?_) | refine Gd.intro (fun h3=>?_) (fun h3=>?_)) <;> simp (maxSteps:=999999) (disch:=first|exact {}|omega|simp) [zS,h3]
   ·try rw [if_pos h3]
    refine zC (c249 a b x A B X) ?_
    simp (maxSteps:=999999) (disch:=first|exact {}|omega|simp) [zS]
    cases e1:isOnB a b x
    rotate_left
    ·simp (maxSteps:=999999) (disch:=first|exact {}|omega|simp) [zS]
    simp (maxSteps:=999999) (disch:=first|exact {}|omega|simp) [zS]
    refine zC (c249 x y b X Y B) ?_
    simp (maxSteps:=999999) (disch:=first|exact {}|omega|simp) [zS]
   ·try rw [if_neg h3]
    (first | refine Gd.dec (fun h4=>?_) (fun h4=>?_) | refine Gd.intro (fun h4=>?_) (fun h4=>?_)) <;> simp (maxSteps:=999999) (disch:=first|exact {}|omega|simp) [zS,h4]
    ·try rw [if_pos h4]
     refine zC (c249 a b y A B Y) ?_
     simp (maxSteps:=999999) (disch:=first|exact {}|omega|simp) [zS]
     cases e1:isOnB a b y
     rotate_left
     ·simp (maxSteps:=999999) (disch:=first|exact {}|omega|simp) [zS]
     simp (maxSteps:=999999) (disch:=first|exact {}|omega|simp) [zS]
     refine zC (c249 x y a X Y A) ?_
     simp (maxSteps:=999999) (disch:=first|exact {}|omega|simp) [zS]
    ·try rw [if_neg h4]
     refine zC (c250 a b x y A B X Y) ?_
     simp (maxSteps:=999999) (disch:=first|exact {}|omega|simp) [zS]
theorem c187 (ps:List Pt) (cs:List Cr) (c d:Cr) (hv:∀ p ∈ ps,PV p) (hc:Cin ps.length c) (hd:Cin ps.length d) :
  PC E 187 [.agg (encK d),.i (.ptr (encPa ps cs)),.i (.ptr (encK c))] [.i (.bool (!apC ps c d))]:=by
 refine zP hE Proofs.Tryz.func187 Proofs.Tryz.ntmps187 rfl rfl ?_
 simp (maxSteps:=999999) (disch:=first|exact {}|omega|simp) [zS,encK,encPa]
 refine zC (c188 ps cs c d hv hc hd) ?_
 simp (maxSteps:=999999) (disch:=first|exact {}|omega|simp) [zS]
theorem c248 (xs:List Cr) (g:FuncId) (caps:List IV) (p:Cr → Bool) (hp:∀ x ∈ xs,PC E g (.agg (encK x) :: caps.map .i) [.i (.bool (p x))]) (h:(xs.length:Int) ≤ 1048576) :
  PC E 248 [.i (.sl (xs.map encK)),.i (.fn g caps)] [.i (.int .i64 (fidx p xs))]:=by
 refine zP hE Proofs.Tryz.func248 Proofs.Tryz.ntmps248 rfl rfl ?_
 simp (maxSteps:=999999) (disch:=first|exact {}|omega|simp) [zS]
 refine XL.by hE (ι:={ k:Nat // k ≤ xs.length ∧ ∀ (j:Nat) (hj:j < xs.length),j < k → p xs[j] = false }) (fun k=>⟨[(0,.i (.sl (xs.map encK))),(1,.i (.fn g caps)),(7,.i (.int .i64 xs.length)),(8,.i (.int .i64 k.1))],[]⟩)
  (fun k=>xs.length - k.1) ⟨0,Nat.zero_le _,by simp⟩ ⟨by simp,by simp,by simp⟩ (by kernel_rfl) ?_
 rintro ⟨k,hk,hno⟩
 by_cases hlt:k < xs.length
 ·simp (maxSteps:=999999) (disch:=first|exact {}|omega|simp) [zS,hlt]
  refine zC (hp xs[k] (List.getElem_mem _)) ?_
  simp (maxSteps:=999999) (disch:=first|exact {}|omega|simp) [zS,hlt]
  (first | refine Gd.dec (fun h4=>?_) (fun h4=>?_) | refine Gd.intro (fun h4=>?_) (fun h4=>?_)) <;> simp (maxSteps:=999999) (disch:=first|exact {}|omega|simp) [zS,h4]
  ·simp [fidx_at hlt hno h4]
  ·(refine ⟨⟨k + 1,by omega,step_no hno hlt h4⟩,by (simp; try omega), ?_⟩; constructor <;> (simp (maxSteps:=999999) (disch:=first|exact {}|omega|simp) [zS]) <;> (try omega))
 ·obtain rfl:k = xs.length:=by omega
  simp (maxSteps:=999999) (disch:=first|exact {}|omega|simp) [zS,fidx_none fun j hj=>hno j hj hj]
theorem c186 (xs:List Cr) (g:FuncId) (caps:List IV) (p:Cr → Bool) (hp:∀ x ∈ xs,PC E g (.agg (encK x) :: caps.map .i) [.i (.bool (p x))]) (h:(xs.length:Int) ≤ 1048576) :
  PC E 186 [.i (.sl (xs.map encK)),.i (.fn g caps)] [.i (.bool (xs.any p))]:=by
 refine zP hE Proofs.Tryz.func186 Proofs.Tryz.ntmps186 rfl rfl ?_
 simp (maxSteps:=999999) (disch:=first|exact {}|omega|simp) [zS]
 refine zC (c248 xs g caps p hp h) ?_
 simp (maxSteps:=999999) (disch:=first|exact {}|omega|simp) [zS,fidx_any]
def planB (ps:List Pt) (cs:List Cr):Bool:=(List.range cs.length).all fun i=>(cs.take i).all fun d=>apC ps (cs.getD i ⟨0,0,0⟩) d
theorem c103 (ps:List Pt) (cs:List Cr) (hv:∀ p ∈ ps,PV p) (hc:∀ c ∈ cs,Cin ps.length c) (hn:(cs.length:Int) ≤ 1048576):PC E 103 [.agg (encPa ps cs)] [.i (.bool (planB ps cs))]:=by
 refine zP hE Proofs.Tryz.func103 Proofs.Tryz.ntmps103 rfl rfl ?_
 simp (maxSteps:=999999) (disch:=first|exact {}|omega|simp) [zS,encPa]
 refine XL.by hE (ι:={ k:Nat // k ≤ cs.length ∧ ∀ i,i < k → ((cs.take i).all fun d=>apC ps (cs.getD i ⟨0,0,0⟩) d) = true }) (fun k=>⟨[(1,.ptr 1 0 0),(6,.i (.sl (cs.map encK))),(7,.i (.int .i64 cs.length)),(8,.i (.int .i64 k.1))],[(1,⟨2,[encPa ps cs]⟩)]⟩)
  (fun k=>cs.length - k.1) ⟨0,Nat.zero_le _,fun i hi=>by omega⟩ ⟨by simp,by simp [encPa],by simp⟩ (by kernel_rfl) ?_
 rintro ⟨k,hk,hall⟩
 by_cases hlt:k < cs.length
 ·have hg:(cs.map encK)[k]? = some (encK cs[k]):=by simp [hlt]
  have hgd:cs.getD k ⟨0,0,0⟩ = cs[k]:=by simp [hlt]
  have hcf:=c186 (cs.take k) 187 [.ptr (encPa ps cs),.ptr (encK cs[k])] (fun d=>!apC ps cs[k] d) (fun d hd=>c187 ps cs cs[k] d hv (hc _ (List.getElem_mem hlt)) (hc _ (List.mem_of_mem_take hd))) (by simp; omega)
  rw [List.map_take] at hcf
  have t3:List.take 3 (encK cs[k]) = encK cs[k]:=rfl
  simp (maxSteps:=999999) (disch:=first|exact {}|omega|simp) [zS,hlt,hk,hg,encPa,t3]
  refine zC (hcf) ?_
  cases hx:(List.take k cs).any fun d=>!apC ps cs[k] d
  ·simp (maxSteps:=999999) (disch:=first|exact {}|omega|simp) [zS]
   (refine ⟨⟨k + 1,by omega,fun i hi=>by
    by_cases e:i = k
    ·subst e
     rw [hgd,List.all_eq_true]
     intro d hd
     rw [List.any_eq_false] at hx
     simpa using hx d hd
    ·exact hall i (by omega)⟩,by (simp; try omega), ?_⟩; constructor <;> (simp (maxSteps:=999999) (disch:=first|exact {}|omega|simp) [zS,encPa]) <;> (try omega))
  ·have:planB ps cs = false:=by
    unfold planB
    rw [List.all_eq_false]
    refine ⟨k,List.mem_range.2 hlt,fun h=>?_⟩
    rw [hgd,List.all_eq_true] at h
    rw [List.any_eq_true] at hx
    obtain ⟨d,hd,hd'⟩:=hx
    rw [h d hd] at hd'
    exact absurd hd' (by decide)
   simp (maxSteps:=999999) (disch:=first|exact {}|omega|simp) [zS,this]
 ·obtain rfl:k = cs.length:=by omega
  have:planB ps cs = true:=by
   unfold planB
   rw [List.all_eq_true]
   exact fun i hi=>hall i (List.mem_range.1 hi)
  simp (maxSteps:=999999) (disch:=first|exact {}|omega|simp) [zS,this]
end Go.Vai
namespace Go.Vai
namespace Wk
def sumTo (f:Nat → Nat):Nat → Nat
 | 0=>0
 | k + 1=>sumTo f k + f k
theorem sumTo_add (f g:Nat → Nat):∀ n,sumTo (fun v=>f v + g v) n = sumTo f n + sumTo g n
 | 0=>rfl
 | n + 1=>by simp only [sumTo]; rw [sumTo_add f g n]; omega
theorem sumTo_le {f g:Nat → Nat} (h:∀ v,f v ≤ g v):∀ n,sumTo f n ≤ sumTo g n
 | 0=>Nat.le_refl _
 | n + 1=>by have:=sumTo_le h n; have:=h n; simp only [sumTo]; omega
theorem sumTo_lt {f g:Nat → Nat} (h:∀ v,f v ≤ g v) {u:Nat} (hu:f u < g u):∀ n,u < n → sumTo f n < sumTo g n
 | 0,h0=>by omega
 | n + 1,h0=>by
  simp only [sumTo]
  by_cases e:u = n
  ·subst e; have:=sumTo_le h u; omega
  ·have:=sumTo_lt h hu n (by omega); have:=h n; omega
theorem sumTo_congr {f g:Nat → Nat}:∀ n,(∀ v,v < n → f v = g v) → sumTo f n = sumTo g n
 | 0,_=>rfl
 | n + 1,h=>by simp only [sumTo]; rw [sumTo_congr n fun v hv=>h v (by omega),h n (by omega)]
theorem sumTo_zero:∀ n,sumTo (fun _=>0) n = 0
 | 0=>rfl
 | n + 1=>by simp only [sumTo]; rw [sumTo_zero n]
theorem sumTo_ind (a c:Nat):∀ n,sumTo (fun v=>if v = a then c else 0) n = if a < n then c else 0
 | 0=>by simp [sumTo]
 | n + 1=>by
  simp only [sumTo]
  rw [sumTo_ind a c n]
  by_cases h:a = n
  ·subst h; simp
  ·by_cases h2:a < n
   ·rw [if_pos h2,if_neg (by omega),if_pos (by omega),Nat.add_zero]
   ·rw [if_neg h2,if_neg (by omega),if_neg (by omega)]
theorem sumTo_mem {n:Nat}:∀ {L:List Nat},L.Nodup → (∀ v ∈ L,v < n) → sumTo (fun v=>if v ∈ L then 2 else 0) n = 2 * L.length
 | [],_,_=>by simp [sumTo_zero]
 | a :: L,hd,hb=>by
  obtain ⟨h1,h2⟩:=List.nodup_cons.1 hd
  have ih:=sumTo_mem (n:=n) h2 fun v hv=>hb v (by simp [hv])
  have e:(fun v=>if v ∈ a :: L then 2 else 0) = fun v=>(if v ∈ L then 2 else 0) + (if v = a then 2 else 0):=by
   funext v
   by_cases hv:v = a
   ·subst hv; simp [h1]
   ·simp [hv]
  rw [e,sumTo_add,ih,sumTo_ind,if_pos (hb a (by simp)),List.length_cons]
  omega
structure Gr (n cnt:Nat) (nb:Nat → List Nat):Prop where
 nd:∀ v,(nb v).Nodup
 irr:∀ v,v ∉ nb v
 sym:∀ u v,u ∈ nb v → v ∈ nb u
 bd:∀ u v,u ∈ nb v → u < n
 sum:sumTo (fun v=>(nb v).length) n = 2 * cnt
def step (nb:Nat → List Nat) (before at_:Nat):Nat:=if (nb at_).getD 0 0 = before then (nb at_).getD 1 0 else (nb at_).getD 0 0
def wk (nb:Nat → List Nat):Nat → Nat × Nat
 | 0=>(0,(nb 0).getD 0 0)
 | k + 1=>((wk nb k).2,step nb (wk nb k).1 (wk nb k).2)
def w (nb:Nat → List Nat) (k:Nat):Nat:=(wk nb k).1
theorem w_step (nb:Nat → List Nat) (k:Nat):w nb (k + 2) = step nb (w nb k) (w nb (k + 1)):=rfl
def D (nb:Nat → List Nat) (m:Nat):Prop:=∀ k,k < m → (nb (w nb k)).length = 2 ∧ (0 < k → w nb k ≠ 0)
theorem D.le {nb:Nat → List Nat} {m m':Nat} (h:D nb m) (hm:m' ≤ m):D nb m':=fun k hk=>h k (by omega)
theorem two {l:List Nat} (h:l.length = 2):∃ x y,l = [x,y]:=by
 match l,h with
 | [x,y],_=>exact ⟨x,y,rfl⟩
section
variable {n cnt:Nat} {nb:Nat → List Nat} (G:Gr n cnt nb)
include G
theorem step_mem {b v:Nat} (h:(nb v).length = 2) (hb:b ∈ nb v):step nb b v ∈ nb v ∧ step nb b v ≠ b ∧ ∀ u ∈ nb v,u = b ∨ u = step nb b v:=by
 obtain ⟨x,y,e⟩:=two h
 have hn:=G.nd v
 rw [e] at hb hn
 unfold step
 rw [e]
 simp only [List.getD_cons_zero,List.getD_cons_succ,List.mem_cons,List.not_mem_nil,or_false,List.nodup_cons,not_false_eq_true,List.nodup_nil,and_true] at *
 rcases hb with rfl | rfl
 ·rw [if_pos rfl]
  exact ⟨.inr rfl,fun e=>hn e.symm,fun u hu=>hu⟩
 ·rw [if_neg hn]
  exact ⟨.inl rfl,hn,fun u hu=>hu.symm⟩
theorem w_nb {m:Nat} (h:D nb m):∀ k,k < m → w nb (k + 1) ∈ nb (w nb k)
 | 0,hk=>by
  obtain ⟨x,y,e⟩:=two (h 0 hk).1
  show (nb 0).getD 0 0 ∈ nb 0
  have:nb 0 = [x,y]:=e
  rw [this]; simp
 | k + 1,hk=>by
  have ih:=w_nb h k (by omega)
  rw [w_step]
  exact (step_mem G (h (k + 1) hk).1 (G.sym _ _ ih)).1
theorem w_ne {m:Nat} (h:D nb m) {k:Nat} (hk:k + 1 < m):w nb (k + 2) ≠ w nb k ∧ ∀ u ∈ nb (w nb (k + 1)),u = w nb k ∨ u = w nb (k + 2):=by
 have hb:=G.sym _ _ (w_nb G h k (by omega))
 have:=step_mem G (h (k + 1) hk).1 hb
 rw [w_step]
 exact ⟨this.2.1,this.2.2⟩
theorem w_inj {m:Nat} (h:D nb m):∀ g,∀ i,0 < g → i + g < m → w nb i ≠ w nb (i + g):=by
 intro g
 induction g using Nat.strongRecOn with
 | _ g ihg =>
  intro i
  induction i with
  | zero =>
   intro hg hm e
   rw [Nat.zero_add] at e hm
   exact (h g hm).2 hg e.symm
  | succ i ihi =>
   intro hg hm e
   have hm1:i + 1 < m:=by omega
   obtain ⟨a1,a2⟩:=w_ne G h hm1
   have hj:(i + g) + 1 < m:=by omega
   have b1:=w_nb G h (i + g) (by omega)
   rw [show i + 1 + g = i + g + 1 by omega] at e
   have b2:=G.sym _ _ b1
   rw [← e] at b2
   rcases a2 _ b2 with c | c
   ·exact ihi hg (by omega) c.symm
   ·-- the way back
    by_cases g1:g = 1
    ·subst g1
     have hx:=w_nb G h (i + 1) hm1
     rw [← e] at hx
     exact G.irr _ hx
    ·by_cases g2:g = 2
     ·subst g2
      exact (w_ne G h (k:=i + 1) (by omega)).1 e.symm
     ·exact ihg (g - 2) (by omega) (i + 2) (by omega) (by omega) (by rw [show i + 2 + (g - 2) = i + g by omega]; exact c.symm)
def ring (nb:Nat → List Nat) (m:Nat):List Nat:=(List.range m).map (w nb)
theorem ring_nodup {m:Nat} (h:D nb m):(ring nb m).Nodup:=by
 unfold ring
 rw [List.nodup_iff_pairwise_ne,List.pairwise_map]
 refine List.Pairwise.imp_of_mem ?_ List.pairwise_lt_range
 intro i j hi hj hij
 have hj':=List.mem_range.1 hj
 have:=w_inj G h (j - i) i (by omega) (by omega)
 rwa [show i + (j - i) = j by omega] at this
theorem w_bd (hn:0 < n) {m:Nat} (h:D nb m):∀ k,k ≤ m → w nb k < n
 | 0,_=>hn
 | k + 1,hk=>G.bd _ _ (w_nb G h k (by omega))
theorem ring_le (hn:0 < n) {m:Nat} (h:D nb m):m ≤ cnt ∧ (m = cnt → ∀ v,v < n → (nb v).length = 0 ∨ (nb v).length = 2):=by
 have hs:=sumTo_mem (n:=n) (ring_nodup G h) fun v hv=>by
  obtain ⟨k,hk,rfl⟩:=List.mem_map.1 hv
  exact w_bd G hn h k (by have:=List.mem_range.1 hk; omega)
 have hl:(ring nb m).length = m:=by simp [ring]
 rw [hl] at hs
 have hle:∀ v,(if v ∈ ring nb m then 2 else 0) ≤ (nb v).length:=fun v=>by
  split
  ·rename_i hv
   obtain ⟨k,hk,rfl⟩:=List.mem_map.1 hv
   rw [(h k (List.mem_range.1 hk)).1]; exact Nat.le_refl _
  ·omega
 have h1:=sumTo_le hle n
 rw [hs,G.sum] at h1
 refine ⟨by omega,fun e v hv=>?_⟩
 by_cases hv2:v ∈ ring nb m
 ·obtain ⟨k,hk,rfl⟩:=List.mem_map.1 hv2
  exact .inr (h k (List.mem_range.1 hk)).1
 ·refine .inl (Classical.byContradiction fun hne=>?_)
  have:=sumTo_lt hle (u:=v) (by rw [if_neg hv2]; omega) n hv
  rw [hs,G.sum] at this
  omega
theorem back (hn:0 < n) (h0:(nb 0).length = 2) (hall:∀ v,v < n → (nb v).length = 0 ∨ (nb v).length = 2):∃ m,3 ≤ m ∧ m ≤ cnt ∧ D nb m ∧ w nb m = 0:=by
 have next:∀ m,0 < m → D nb m → w nb m ≠ 0 → D nb (m + 1):=fun m hm hD hz k hk=>by
  by_cases e:k = m
  ·subst e
   refine ⟨?_,fun _=>hz⟩
   have h1:=w_nb G hD (k - 1) (by omega)
   rw [show k - 1 + 1 = k by omega] at h1
   have h2:=G.sym _ _ h1
   rcases hall _ (w_bd G hn hD k (Nat.le_refl _)) with h | h
   ·rw [List.length_eq_zero_iff] at h; rw [h] at h2; simp at h2
   ·exact h
  ·exact hD k (by omega)
 have D1:D nb 1:=fun k hk=>by
  obtain rfl:k = 0:=by omega
  exact ⟨h0,fun h=>by omega⟩
 have D3:D nb 3:=by
  have z1:w nb 1 ≠ 0:=fun e=>by
   have:=w_nb G D1 0 (by omega)
   rw [e] at this
   exact G.irr 0 this
  have D2:=next 1 (by omega) D1 z1
  have z2:w nb 2 ≠ 0:=(w_ne G D2 (k:=0) (by omega)).1
  exact next 2 (by omega) D2 z2
 have key:∀ r,(∃ m,3 ≤ m ∧ m ≤ cnt ∧ D nb m ∧ w nb m = 0) ∨ D nb (3 + r):=by
  intro r
  induction r with
  | zero=>exact .inr D3
  | succ r ih =>
   rcases ih with h | h
   ·exact .inl h
   ·by_cases hz:w nb (3 + r) = 0
    ·exact .inl ⟨3 + r,by omega,(ring_le G hn h).1,h,hz⟩
    ·exact .inr (next (3 + r) (by omega) h hz)
 rcases key cnt with h | h
 ·exact h
 ·have:=(ring_le G hn h).1; omega
theorem three {m:Nat} (hm:0 < m) (h:D nb m) (hz:w nb m = 0):3 ≤ m:=by
 have h1:m ≠ 1:=fun e=>by
  subst e
  have:=w_nb G h 0 (by omega)
  rw [hz] at this
  exact G.irr 0 this
 have h2:m ≠ 2:=fun e=>by
  subst e
  exact (w_ne G h (k:=0) (by omega)).1 hz
 omega
end
end Wk
end Go.Vai
